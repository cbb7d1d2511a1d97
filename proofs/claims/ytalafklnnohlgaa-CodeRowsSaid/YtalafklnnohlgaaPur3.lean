/- Events and their bytes: what was written is read as it was. Condition: the numbers are in their ranges. -/
import Derived.Test.YtalafklnnohlgaaCodO
namespace Go.Proofs.Ytalafklnnohlgaa.Cod
open Oct hiding agg39 size39
set_option linter.unusedVariables false
set_option linter.unusedSimpArgs false

theorem beU_beB : ∀ (w : Nat) (y : Int), w ≤ 8 → 0 ≤ y → y < 256 ^ w → beU (beB w y) = y
  | 0, y, _, h0, h1 => by simp only [Int.pow_zero] at h1; show (0 : Int) = y; omega
  | r + 1, y, hw, h0, h1 => by
    have hp : (0 : Int) < 256 ^ r := Int.pow_pos (by decide)
    have hp2 : (256 : Int) ^ (r + 1) = 256 * 256 ^ r := by rw [Int.pow_succ]; omega
    have m0 := Int.emod_nonneg y (show (256 : Int) ^ r ≠ 0 by omega)
    have m1 := Int.emod_lt_of_pos y hp
    have q1 : y / 256 ^ r < 256 := Int.ediv_lt_of_lt_mul hp (by omega)
    have q0 : 0 ≤ y / 256 ^ r := Int.ediv_nonneg h0 (by omega)
    have hb : Byt ((y / 256 ^ r) % 256 :: beB r (y % 256 ^ r)) := fun u hu => by
      rcases List.mem_cons.1 hu with rfl | hu
      · omega
      · exact byt_beB r _ u hu
    show beU ((y / 256 ^ r) % 256 :: beB r (y % 256 ^ r)) = y
    rw [beU_cons r _ _ (beB_len _ _) hb (by omega), beU_beB r _ (by omega) m0 m1, Int.emod_eq_of_lt q0 q1]
    have := Int.mul_ediv_add_emod y (256 ^ r)
    rw [Int.mul_comm] at this; exact this

/-- The places of what counts, as they are in events. -/
def goodP : Fd → Prop
  | .n j w k => k = .u32 → j ∈ [13, 14, 24, 25, 26]
  | .f j => j = 5
  | .l j => True
def putD (a : Ev) (f : Fd) (e : Ev) : Ev :=
  match f with
  | .n j _ _ => ⟨upd e.n j (a.n j), e.nums, e.mem⟩
  | .f j => ⟨upd e.n j (a.n j), e.nums, e.mem⟩
  | .l j => e.setl j (a.lst j)
def putF (fs : List Fd) (a e : Ev) : Ev := fs.foldl (fun e f => putD a f e) e
theorem byte_of {x : Int} (hx : R64 x) (h : nofit 1 (IntKind.u64.wrap x) = false) : 0 ≤ x ∧ x < 256 := by
  unfold R64 at hx
  rw [X.wr_u64'] at h
  have : x % 18446744073709551616 / 256 = 0 := by simpa [nofit] using h
  omega
theorem u8b_list : ∀ (l : List Int), (∀ x ∈ l, R64 x) → l.all (fun x => !nofit 1 (IntKind.u64.wrap x)) = true → l.flatMap u8b = l ∧ Byt l
  | [], _, _ => ⟨rfl, fun _ h => by cases h⟩
  | x :: l, h, k => by
    simp only [List.all_cons, Bool.and_eq_true, Bool.not_eq_true'] at k
    have hx := byte_of (h x (by simp)) k.1
    obtain ⟨h1, h2⟩ := u8b_list l (fun u hu => h u (by simp [hu])) k.2
    refine ⟨by rw [List.flatMap_cons, u8b_one hx, h1]; rfl, fun u hu => ?_⟩
    rcases List.mem_cons.1 hu with rfl | hu
    · exact hx
    · exact h2 u hu
theorem lst_R {a : Ev} (ha : wfE a) (j : Nat) : ∀ x ∈ a.lst j, R64 x := by
  unfold Ev.lst
  cases Nat.beq j 6
  · exact ha.2.2.2.2
  · exact ha.2.2.2.1
theorem wr_rd {a e : Ev} {f : Fd} {r : List Int} (hg : goodW f) (hp : goodP f) (ha : wfE a) (hok : okD a f = true) : rdD (.good (wrD a f ++ r) e) f = .good r (putD a f e) := by
  cases f with
  | n j w k =>
    have hw8 : w ≤ 8 := by rcases hg.2 with ⟨_, h | h | h | h⟩ | ⟨_, h⟩ <;> omega
    have hy0 : 0 ≤ IntKind.u64.wrap (a.n j) := wrap_u64 _
    have hy1 : IntKind.u64.wrap (a.n j) < 256 ^ w := by
      simp only [okD, Bool.not_eq_true'] at hok
      by_cases h8 : w < 8
      · have h0 : IntKind.u64.wrap (a.n j) / 256 ^ w = 0 := by simpa [nofit, h8] using hok
        have hp : (0 : Int) < 256 ^ w := Int.pow_pos (by decide)
        have := Int.mul_ediv_add_emod (IntKind.u64.wrap (a.n j)) (256 ^ w)
        rw [h0] at this
        have := Int.emod_lt_of_pos (IntKind.u64.wrap (a.n j)) hp
        omega
      · have : w = 8 := by omega
        subst this
        rw [X.wr_u64', show (256 : Int) ^ 8 = 18446744073709551616 by decide]; omega
    have hl : (beB w (IntKind.u64.wrap (a.n j))).length = w := beB_len _ _
    rw [show wrD a (.n j w k) = beB w (IntKind.u64.wrap (a.n j)) from rfl]
    simp only [rdD, putD]
    rw [if_pos (by simp [hl]), List.drop_left' hl, List.take_left' hl, beU_beB w _ hw8 hy0 hy1]
    have hk : k.wrap (IntKind.u64.wrap (a.n j)) = a.n j := by
      have hr := ha.1 j
      unfold R64 at hr
      rcases hg.2 with ⟨rfl, _⟩ | ⟨rfl, _⟩
      · rw [IntKind.wrap_i64, X.wr_u64']; omega
      · have := ha.2.1 j (hp rfl)
        rw [X.wr_u32, X.wr_u64']; omega
    rw [hk]
  | f j =>
    have hj : j = 5 := hp
    subst hj
    simp only [rdD, wrD, putD, List.cons_append, List.nil_append]
    rcases ha.2.2.1 with h | h
    · rw [h]; rfl
    · rw [h]; rfl
  | l j =>
    simp only [okD, Bool.and_eq_true, decide_eq_true_eq] at hok
    obtain ⟨h1, h2⟩ := u8b_list _ (lst_R ha j) hok.2
    simp only [rdD, wrD, putD]
    rw [u8b_one (by omega), h1]
    simp only [List.cons_append, List.nil_append, List.append_assoc]
    rw [if_neg (by omega), if_neg (by simp), Int.toNat_natCast, List.drop_left' rfl, List.take_left' rfl]
theorem wrF_rd {a : Ev} (ha : wfE a) : ∀ (fs : List Fd) (e : Ev) (r : List Int), (∀ f ∈ fs, goodW f ∧ goodP f) → okF fs a = true → rdF fs (.good (wrF fs a ++ r) e) = .good r (putF fs a e)
  | [], e, r, _, _ => rfl
  | f :: fs, e, r, hg, hok => by
    simp only [okF, List.all_cons, Bool.and_eq_true] at hok
    have hf := hg f (by simp)
    show rdF fs (rdD (.good (wrF (f :: fs) a ++ r) e) f) = _
    rw [show wrF (f :: fs) a ++ r = wrD a f ++ (wrF fs a ++ r) by simp [wrF], wr_rd hf.1 hf.2 ha hok.1]
    exact wrF_rd ha fs _ r (fun g hg' => hg g (by simp [hg'])) hok.2
theorem callF_P {k : Int} {fs : List Fd} (h : callF k = some fs) : ∀ f ∈ fs, goodP f := by
  by_cases h1 : k = 1
  · subst h1; cases h; simp [goodP]
  by_cases h2 : k = 2
  · subst h2; cases h; simp [goodP]
  by_cases h3 : k = 3
  · subst h3; cases h; simp [goodP]
  by_cases h10 : k = 10
  · subst h10; cases h; simp [goodP]
  by_cases h13 : k = 13
  · subst h13; cases h; simp [goodP]
  by_cases h16 : k = 16
  · subst h16; cases h; simp [goodP]
  by_cases h18 : k = 18
  · subst h18; cases h; simp [goodP]
  by_cases h19 : k = 19
  · subst h19; cases h; simp [goodP]
  by_cases h4 : k = 4
  · subst h4; cases h; simp [goodP]
  by_cases h5 : k = 5
  · subst h5; cases h; simp [goodP]
  by_cases h6 : k = 6
  · subst h6; cases h; simp [goodP]
  by_cases h7 : k = 7
  · subst h7; cases h; simp [goodP]
  by_cases h8 : k = 8
  · subst h8; cases h; simp [goodP]
  by_cases h9 : k = 9
  · subst h9; cases h; simp [goodP]
  by_cases h11 : k = 11
  · subst h11; cases h; simp [goodP]
  by_cases h12 : k = 12
  · subst h12; cases h; simp [goodP]
  by_cases h20 : k = 20
  · subst h20; cases h; simp [goodP]
  by_cases h14 : k = 14
  · subst h14; cases h; simp [goodP]
  by_cases h15 : k = 15
  · subst h15; cases h; simp [goodP]
  by_cases h17 : k = 17
  · subst h17; cases h; simp [goodP]
  simp only [callF, h1, h2, h3, h10, h13, h16, h18, h19, h4, h5, h6, h7, h8, h9, h11, h12, h20, h14, h15, h17, if_false] at h
  cases h
theorem liveF_P {k : Int} {fs : List Fd} (h : liveF k = some fs) : ∀ f ∈ fs, goodP f := by
  unfold liveF at h
  repeat' split at h
  all_goals first | (cases h; simp [goodP]) | cases h
def normE (a : Ev) : Ev := match evF a with | some fs => putF fs a zeroEv | none => zeroEv
theorem sub_rd {a : Ev} (ha : wfE a) {j : Nat} (hj : j = 1 ∨ j = 15) {F : Int → Option (List Fd)} {fs : List Fd} {r : List Int} (hg : ∀ f ∈ fs, goodW f ∧ goodP f) (hF : F (a.n j) = some fs) (hok : okF (.n 0 1 .i64 :: .n j 1 .i64 :: fs) a = true) :
    ∃ r1 e1, rdD (.good (wrF (.n 0 1 .i64 :: .n j 1 .i64 :: fs) a ++ r) zeroEv) (.n 0 1 .i64) = .good r1 e1 ∧ e1.n 0 = a.n 0 ∧ subE (.good r1 e1) j F = .good r (putF (.n 0 1 .i64 :: .n j 1 .i64 :: fs) a zeroEv) := by
  have g0 : goodW (.n 0 1 .i64) := ⟨by decide, .inl ⟨rfl, .inl rfl⟩⟩
  have gj : goodW (.n j 1 .i64) := ⟨by rcases hj with rfl | rfl <;> decide, .inl ⟨rfl, .inl rfl⟩⟩
  have p0 : goodP (.n 0 1 .i64) := fun h => by cases h
  have pj : goodP (.n j 1 .i64) := fun h => by cases h
  simp only [okF, List.all_cons, Bool.and_eq_true] at hok
  refine ⟨wrD a (.n j 1 .i64) ++ (wrF fs a ++ r), putD a (.n 0 1 .i64) zeroEv, by rw [show wrF (.n 0 1 .i64 :: .n j 1 .i64 :: fs) a ++ r = wrD a (.n 0 1 .i64) ++ (wrD a (.n j 1 .i64) ++ (wrF fs a ++ r)) by simp [wrF]]; exact wr_rd g0 p0 ha hok.1, (show upd zeroEv.n 0 (a.n 0) 0 = a.n 0 from upd_at _ _ _), ?_⟩
  unfold subE
  rw [wr_rd gj pj ha hok.2.1]
  have hn : (putD a (.n j 1 .i64) (putD a (.n 0 1 .i64) zeroEv)).n j = a.n j := (show upd _ j (a.n j) j = a.n j from upd_at _ _ _)
  simp only [hn, hF]
  exact wrF_rd ha fs _ r hg hok.2.2
/-- What was written is read as it was. -/
theorem wrE_rd {a : Ev} (ha : wfE a) (hok : okE a = true) (r : List Int) : rdE (wrE a ++ r) = .good r (normE a) := by
  unfold okE at hok
  unfold wrE normE
  cases hev : evF a with
  | none => rw [hev] at hok; cases hok
  | some gs =>
    rw [hev] at hok
    dsimp only at hok ⊢
    unfold evF at hev
    split at hev
    · rename_i h1
      obtain ⟨fs, hf, rfl⟩ := Option.map_eq_some_iff.1 hev
      obtain ⟨r1, e1, h2, h3, h4⟩ := sub_rd (r := r) ha (.inl rfl) (fun f hf' => ⟨(callF_good hf).1 f hf', callF_P hf f hf'⟩) hf hok
      unfold rdE
      rw [h2]
      dsimp only
      rw [if_pos (h3.trans h1), h4]
    · split at hev
      · rename_i h0 h1
        obtain ⟨fs, hf, rfl⟩ := Option.map_eq_some_iff.1 hev
        obtain ⟨r1, e1, h2, h3, h4⟩ := sub_rd (r := r) ha (.inr rfl) (fun f hf' => ⟨(liveF_good hf).1 f hf', liveF_P hf f hf'⟩) hf hok
        unfold rdE
        rw [h2]
        dsimp only
        rw [if_neg (by rw [h3]; exact h0), if_pos (h3.trans h1), h4]
      · split at hev
        · rename_i h0 h00 h1
          cases hev
          simp only [okF, List.all_cons, Bool.and_eq_true] at hok
          unfold rdE
          rw [show wrF [.n 0 1 .i64, .n 28 8 .i64] a ++ r = wrD a (.n 0 1 .i64) ++ (wrD a (.n 28 8 .i64) ++ r) by simp [wrF], wr_rd (f := .n 0 1 .i64) ⟨by decide, .inl ⟨rfl, .inl rfl⟩⟩ (fun h => by cases h) ha hok.1]
          have hn : (putD a (.n 0 1 .i64) zeroEv).n 0 = a.n 0 := (show upd zeroEv.n 0 (a.n 0) 0 = a.n 0 from upd_at _ _ _)
          dsimp only
          rw [if_neg (by rw [hn]; exact h0), if_neg (by rw [hn]; exact h00), if_pos (hn.trans h1), wr_rd (f := .n 28 8 .i64) ⟨by decide, .inl ⟨rfl, .inr (.inr (.inr rfl))⟩⟩ (fun h => by cases h) ha hok.2.1]
          rfl
        · cases hev
theorem decP_wr {a : Ev} (ha : wfE a) (hok : okE a = true) : decP (wrE a) = (0, normE a) := by
  have := wrE_rd ha hok []
  rw [List.append_nil] at this
  exact decP_good this
/-- What Encode answers, without reading. -/
theorem encP_eq {a : Ev} (ha : wfE a) : encP a = if okE a = true ∧ sameE (normE a) a = true then some (wrE a) else none := by
  unfold encP
  by_cases hok : okE a = true
  · rw [decP_wr ha hok]; simp [hok]
  · simp [hok]

/-! ### what is read is in its ranges -/
theorem wf_zero : wfE zeroEv := ⟨(fun _ => (show R64 0 from ⟨by decide, by decide⟩)), (fun _ _ => (show (0 : Int) ≤ 0 ∧ (0 : Int) < 4294967296 by decide)), .inl rfl, (fun _ h => by cases h), (fun _ h => by cases h)⟩
theorem wf_upd {e : Ev} (he : wfE e) {j : Nat} {v : Int} (hv : R64 v) (h32 : j ∈ [13, 14, 24, 25, 26] → 0 ≤ v ∧ v < 4294967296) (h5 : j = 5 → v = 0 ∨ v = 1) : wfE ⟨upd e.n j v, e.nums, e.mem⟩ := by
  have hu : ∀ i, upd e.n j v i = if i = j then v else e.n i := fun i => by
    unfold upd
    by_cases h : i = j
    · subst h; simp
    · rw [if_neg h]
      cases hb : Nat.beq i j with
      | false => rfl
      | true => exact absurd (Nat.eq_of_beq_eq_true hb) h
  refine ⟨fun i => ?_, fun i hi => ?_, ?_, he.2.2.2.1, he.2.2.2.2⟩
  · show R64 (upd e.n j v i)
    rw [hu]; split
    · exact hv
    · exact he.1 i
  · show 0 ≤ upd e.n j v i ∧ upd e.n j v i < 4294967296
    rw [hu]; split
    · rename_i h; exact h32 (h ▸ hi)
    · exact he.2.1 i hi
  · show upd e.n j v 5 = 0 ∨ upd e.n j v 5 = 1
    rw [hu]; split
    · rename_i h; exact h5 h.symm
    · exact he.2.2.1
theorem wf_setl {e : Ev} (he : wfE e) (j : Nat) {l : List Int} (hl : ∀ x ∈ l, R64 x) : wfE (e.setl j l) := by
  unfold Ev.setl
  cases Nat.beq j 6
  · exact ⟨he.1, he.2.1, he.2.2.1, he.2.2.2.1, hl⟩
  · exact ⟨he.1, he.2.1, he.2.2.1, hl, he.2.2.2.2⟩
def goodQ : Fd → Prop
  | .n j w k => j ≠ 5 ∧ (k = .i64 → j ∉ [13, 14, 24, 25, 26])
  | .f j => j = 5
  | .l j => True
theorem rd_wf {l r : List Int} {e e' : Ev} {f : Fd} (hg : goodW f) (hq : goodQ f) (hb : Byt l) (he : wfE e) (h : rdD (.good l e) f = .good r e') : wfE e' := by
  cases f with
  | n j w k =>
    simp only [rdD] at h
    split at h
    · rename_i hl
      cases h
      have hw8 : w ≤ 8 := by rcases hg.2 with ⟨_, h | h | h | h⟩ | ⟨_, h⟩ <;> omega
      have hlen : (l.take w).length = w := by simp; omega
      have hr := beU_rg w (l.take w) hlen hw8 (byt_take hb w)
      rcases hg.2 with ⟨rfl, _⟩ | ⟨rfl, rfl⟩
      · refine wf_upd he ?_ (fun hj => absurd hj (hq.2 rfl)) (fun hj => absurd hj hq.1)
        unfold R64; rw [IntKind.wrap_i64]; omega
      · refine wf_upd he ?_ (fun hj => ?_) (fun hj => absurd hj hq.1)
        · unfold R64; rw [X.wr_u32]; omega
        · rw [X.wr_u32]; omega
    · cases h
  | f j =>
    have hj : j = 5 := hq
    subst hj
    cases l with
    | nil => cases h
    | cons x r0 =>
      simp only [rdD] at h
      split at h
      · cases h
      · cases h
        have hx := hb x (by simp)
        exact wf_upd he (by unfold R64; omega) (fun hj => by simp at hj) (fun _ => by omega)
  | l j =>
    cases l with
    | nil => cases h
    | cons x r0 =>
      simp only [rdD] at h
      split at h
      · cases h
      · split at h
        · cases h
        · cases h
          exact wf_setl he j (fun u hu => by
            have := hb u (by simp [List.mem_of_mem_take hu])
            unfold R64; omega)
theorem rdF_wf : ∀ (fs : List Fd) (l r : List Int) (e e' : Ev), (∀ f ∈ fs, goodW f ∧ goodQ f) → Byt l → wfE e → rdF fs (.good l e) = .good r e' → wfE e'
  | [], l, r, e, e', _, _, he, h => by cases h; exact he
  | f :: fs, l, r, e, e', hg, hb, he, h => by
    have h' : rdF fs (rdD (.good l e) f) = .good r e' := h
    have hf := hg f (by simp)
    cases hr : rdD (.good l e) f with
    | short => rw [hr, rdF_short] at h'; cases h'
    | code => rw [hr, rdF_code] at h'; cases h'
    | good r1 e1 =>
      rw [hr] at h'
      exact rdF_wf fs r1 r e1 e' (fun g hg' => hg g (by simp [hg'])) (rd_wr hf.1 hb hr).2.2 (rd_wf hf.1 hf.2 hb he hr) h'
theorem callF_Q {k : Int} {fs : List Fd} (h : callF k = some fs) : ∀ f ∈ fs, goodQ f := by
  by_cases h1 : k = 1
  · subst h1; cases h; simp [goodQ]
  by_cases h2 : k = 2
  · subst h2; cases h; simp [goodQ]
  by_cases h3 : k = 3
  · subst h3; cases h; simp [goodQ]
  by_cases h10 : k = 10
  · subst h10; cases h; simp [goodQ]
  by_cases h13 : k = 13
  · subst h13; cases h; simp [goodQ]
  by_cases h16 : k = 16
  · subst h16; cases h; simp [goodQ]
  by_cases h18 : k = 18
  · subst h18; cases h; simp [goodQ]
  by_cases h19 : k = 19
  · subst h19; cases h; simp [goodQ]
  by_cases h4 : k = 4
  · subst h4; cases h; simp [goodQ]
  by_cases h5 : k = 5
  · subst h5; cases h; simp [goodQ]
  by_cases h6 : k = 6
  · subst h6; cases h; simp [goodQ]
  by_cases h7 : k = 7
  · subst h7; cases h; simp [goodQ]
  by_cases h8 : k = 8
  · subst h8; cases h; simp [goodQ]
  by_cases h9 : k = 9
  · subst h9; cases h; simp [goodQ]
  by_cases h11 : k = 11
  · subst h11; cases h; simp [goodQ]
  by_cases h12 : k = 12
  · subst h12; cases h; simp [goodQ]
  by_cases h20 : k = 20
  · subst h20; cases h; simp [goodQ]
  by_cases h14 : k = 14
  · subst h14; cases h; simp [goodQ]
  by_cases h15 : k = 15
  · subst h15; cases h; simp [goodQ]
  by_cases h17 : k = 17
  · subst h17; cases h; simp [goodQ]
  simp only [callF, h1, h2, h3, h10, h13, h16, h18, h19, h4, h5, h6, h7, h8, h9, h11, h12, h20, h14, h15, h17, if_false] at h
  cases h
theorem liveF_Q {k : Int} {fs : List Fd} (h : liveF k = some fs) : ∀ f ∈ fs, goodQ f := by
  unfold liveF at h
  repeat' split at h
  all_goals first | (cases h; simp [goodQ]) | cases h
theorem sub_wf {j : Nat} (hj : j = 1 ∨ j = 15) {F : Int → Option (List Fd)} (hF : ∀ k fs, F k = some fs → ∀ f ∈ fs, goodW f ∧ goodQ f) {r r1 : List Int} {e e1 : Ev} (hb : Byt r1) (he : wfE e1) (h : subE (.good r1 e1) j F = .good r e) : wfE e := by
  unfold subE at h
  cases h2 : rdD (.good r1 e1) (.n j 1 .i64) with
  | short => rw [h2] at h; cases h
  | code => rw [h2] at h; cases h
  | good r2 e2 =>
    have gj : goodW (.n j 1 .i64) := ⟨by rcases hj with rfl | rfl <;> decide, .inl ⟨rfl, .inl rfl⟩⟩
    have qj : goodQ (.n j 1 .i64) := ⟨by rcases hj with rfl | rfl <;> decide, fun _ => by rcases hj with rfl | rfl <;> decide⟩
    rw [h2] at h
    dsimp only at h
    cases hf : F (e2.n j) with
    | none => rw [hf] at h; cases h
    | some fs =>
      rw [hf] at h
      exact rdF_wf fs r2 r e2 e (hF _ _ hf) (rd_wr gj hb h2).2.2 (rd_wf gj qj hb he h2) h
theorem rdE_wf {b r : List Int} {e : Ev} (hb : Byt b) (h : rdE b = .good r e) : wfE e := by
  unfold rdE at h
  have g0 : goodW (.n 0 1 .i64) := ⟨by decide, .inl ⟨rfl, .inl rfl⟩⟩
  have q0 : goodQ (.n 0 1 .i64) := ⟨by decide, fun _ => by decide⟩
  cases h1 : rdD (.good b zeroEv) (.n 0 1 .i64) with
  | short => rw [h1] at h; cases h
  | code => rw [h1] at h; cases h
  | good r1 e1 =>
    have hb1 := (rd_wr g0 hb h1).2.2
    have he1 := rd_wf g0 q0 hb wf_zero h1
    rw [h1] at h
    dsimp only at h
    split at h
    · exact sub_wf (.inl rfl) (fun k fs hf f hf' => ⟨(callF_good hf).1 f hf', callF_Q hf f hf'⟩) hb1 he1 h
    · split at h
      · exact sub_wf (.inr rfl) (fun k fs hf f hf' => ⟨(liveF_good hf).1 f hf', liveF_Q hf f hf'⟩) hb1 he1 h
      · split at h
        · exact rd_wf (f := .n 28 8 .i64) ⟨by decide, .inl ⟨rfl, .inr (.inr (.inr rfl))⟩⟩ ⟨by decide, fun _ => by decide⟩ hb1 he1 h
        · cases h
/-- What was read, out of more bytes, is read out of its own. -/
theorem rdE_own {b r : List Int} {e : Ev} (hb : Byt b) (h : rdE b = .good r e) : b = wrE e ++ r ∧ encP e = some (wrE e) ∧ rdE (wrE e) = .good [] e := by
  obtain ⟨h1, h2⟩ := rdE_wr hb h
  have hw := wrE_rd (rdE_wf hb h) h1 r
  rw [← h2, h] at hw
  have hn : normE e = e := by simp only [Res.good.injEq, true_and] at hw; exact hw.symm
  have h3 := wrE_rd (rdE_wf hb h) h1 []
  rw [List.append_nil, hn] at h3
  exact ⟨h2, encP_back (byt_wrE e) h3, h3⟩
end Go.Proofs.Ytalafklnnohlgaa.Cod
