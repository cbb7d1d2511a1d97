/- Events and their bytes, in plain numbers: what is read goes on behind more bytes; what was read is written as it was. Condition: the bytes are such. -/
import Derived.Test.YtalafklnnohlgaaCod9
namespace Go.Proofs.Ytalafklnnohlgaa.Cod
open Oct hiding agg39 size39
set_option linter.unusedVariables false
set_option linter.unusedSimpArgs false

/-! ### more bytes -/
def ext (t : List Int) : Res → Res
  | .good r e => .good (r ++ t) e
  | .short => .short
  | .code => .code
theorem rdD_ext (t l : List Int) (e : Ev) (f : Fd) (h : rdD (.good l e) f ≠ .short) : rdD (.good (l ++ t) e) f = ext t (rdD (.good l e) f) := by
  cases f with
  | n j w k =>
    simp only [rdD] at h ⊢
    by_cases hl : w ≤ l.length
    · rw [if_pos hl, if_pos (by simp; omega)]
      simp only [ext, List.drop_append_of_le_length hl, List.take_append_of_le_length hl]
    · rw [if_neg hl] at h; exact absurd rfl h
  | f j =>
    cases l with
    | nil => exact absurd rfl h
    | cons x r =>
      simp only [rdD, List.cons_append] at h ⊢
      split <;> rfl
  | l j =>
    cases l with
    | nil => exact absurd rfl h
    | cons x r =>
      simp only [rdD, List.cons_append] at h ⊢
      by_cases hx : 32 < x
      · rw [if_pos hx, if_pos hx]; rfl
      · rw [if_neg hx] at h ⊢
        rw [if_neg hx]
        by_cases hl : r.length < x.toNat
        · rw [if_pos hl] at h; exact absurd rfl h
        · rw [if_neg hl, if_neg (by simp; omega)]
          simp only [ext, List.drop_append_of_le_length (Nat.not_lt.1 hl), List.take_append_of_le_length (Nat.not_lt.1 hl)]
theorem rdF_ext (t : List Int) : ∀ (fs : List Fd) (l : List Int) (e : Ev), rdF fs (.good l e) ≠ .short → rdF fs (.good (l ++ t) e) = ext t (rdF fs (.good l e))
  | [], l, e, _ => rfl
  | f :: fs, l, e, h => by
    have h1 : rdD (.good l e) f ≠ .short := fun hh => h (by show rdF fs (rdD (.good l e) f) = _; rw [hh, rdF_short])
    show rdF fs (rdD (.good (l ++ t) e) f) = ext t (rdF fs (rdD (.good l e) f))
    rw [rdD_ext t l e f h1]
    have h2 : rdF fs (rdD (.good l e) f) ≠ .short := h
    cases hr : rdD (.good l e) f with
    | short => exact absurd hr h1
    | code => simp only [ext, rdF_code]
    | good r e2 => rw [hr] at h2; exact rdF_ext t fs r e2 h2
theorem subE_ext (t l : List Int) (e : Ev) (j : Nat) (F : Int → Option (List Fd)) (h : subE (.good l e) j F ≠ .short) : subE (.good (l ++ t) e) j F = ext t (subE (.good l e) j F) := by
  unfold subE at h ⊢
  have h1 : rdD (.good l e) (.n j 1 .i64) ≠ .short := fun hh => h (by rw [hh])
  rw [rdD_ext t l e _ h1]
  cases hr : rdD (.good l e) (.n j 1 .i64) with
  | short => exact absurd hr h1
  | code => rfl
  | good r e2 =>
    rw [hr] at h
    simp only [ext] at h ⊢
    cases hF : F (e2.n j) with
    | none => rfl
    | some fs => rw [hF] at h; exact rdF_ext t fs r e2 h
theorem rdE_ext (t l : List Int) (h : rdE l ≠ .short) : rdE (l ++ t) = ext t (rdE l) := by
  unfold rdE at h ⊢
  have h1 : rdD (.good l zeroEv) (.n 0 1 .i64) ≠ .short := fun hh => h (by rw [hh])
  rw [rdD_ext t l zeroEv _ h1]
  cases hr : rdD (.good l zeroEv) (.n 0 1 .i64) with
  | short => exact absurd hr h1
  | code => rfl
  | good r e2 =>
    rw [hr] at h
    simp only [ext] at h ⊢
    by_cases h1 : e2.n 0 = 1
    · rw [if_pos h1] at h; rw [if_pos h1, if_pos h1]; exact subE_ext t r e2 1 callF h
    · rw [if_neg h1] at h
      rw [if_neg h1, if_neg h1]
      by_cases h2 : e2.n 0 = 2
      · rw [if_pos h2] at h; rw [if_pos h2, if_pos h2]; exact subE_ext t r e2 15 liveF h
      · rw [if_neg h2] at h
        rw [if_neg h2, if_neg h2]
        by_cases h3 : e2.n 0 = 3
        · rw [if_pos h3] at h; rw [if_pos h3, if_pos h3]; exact rdD_ext t r e2 _ h
        · rw [if_neg h3, if_neg h3]
/-- Less of an event's bytes is too short. -/
theorem rdE_less {y : List Int} {e : Ev} (h : rdE y = .good [] e) {i : Nat} (hi : i < y.length) : rdE (y.take i) = .short := by
  cases hr : rdE (y.take i) with
  | short => rfl
  | code =>
    have := rdE_ext (y.drop i) (y.take i) (by rw [hr]; exact fun h => by cases h)
    rw [List.take_append_drop, h, hr] at this; cases this
  | good r e2 =>
    have := rdE_ext (y.drop i) (y.take i) (by rw [hr]; exact fun h => by cases h)
    rw [List.take_append_drop, h, hr] at this
    simp only [ext, Res.good.injEq] at this
    have h2 := congrArg List.length this.1
    simp at h2; omega
theorem rdE_more {y : List Int} {e : Ev} (h : rdE y = .good [] e) (t : List Int) : rdE (y ++ t) = .good t e := by
  rw [rdE_ext t y (by rw [h]; exact fun h => by cases h), h]; rfl

/-! ### bytes of numbers -/
theorem beU_cons : ∀ (n : Nat) (d : List Int) (a : Int), d.length = n → Byt (a :: d) → n ≤ 7 → beU (a :: d) = a * 256 ^ n + beU d := by
  intro n
  induction n with
  | zero =>
    intro d a hd hb _
    obtain rfl := List.eq_nil_of_length_eq_zero hd
    have h := hb a (by simp)
    show stepU 0 a = a * 256 ^ 0 + 0
    rw [stepU_eq (by decide) h.1 (by omega)]; simp
  | succ n ih =>
    intro d a hd hb hn
    rcases List.eq_nil_or_concat d with rfl | ⟨e, b, rfl⟩
    · simp at hd
    · rw [List.concat_eq_append] at *
      have he : e.length = n := by simpa using hd
      have hae : Byt (a :: e) := fun u hu => hb u (by simp at hu ⊢; rcases hu with h | h; exact .inl h; exact .inr (.inl h))
      have hbe : Byt e := fun u hu => hae u (by simp [hu])
      have hbb := hb b (by simp)
      have h1 := ih e a he hae (by omega)
      have r1 := beU_rg (n + 1) (a :: e) (by simp [he]) (by omega) hae
      have r2 := beU_rg n e he (by omega) hbe
      have hp : (256 : Int) ^ (n + 1) ≤ 72057594037927936 := by
        have : n = 0 ∨ n = 1 ∨ n = 2 ∨ n = 3 ∨ n = 4 ∨ n = 5 ∨ n = 6 := by omega
        rcases this with rfl | rfl | rfl | rfl | rfl | rfl | rfl <;> decide
      have hp2 : (256 : Int) ^ (n + 1) = 256 ^ n * 256 := Int.pow_succ _ _
      have hp3 : (0 : Int) < 256 ^ n := Int.pow_pos (by decide)
      rw [← List.cons_append, beU_snoc, beU_snoc, stepU_eq r1.1 hbb.1 (by omega), stepU_eq r2.1 hbb.1 (by omega), h1, hp2, ← Int.mul_assoc]
      omega
theorem beB_beU : ∀ (d : List Int), Byt d → d.length ≤ 8 → beB d.length (beU d) = d := by
  intro d
  induction d with
  | nil => intro _ _; rfl
  | cons a d ih =>
    intro hb hl
    have ha := hb a (by simp)
    have hd : Byt d := fun u hu => hb u (by simp [hu])
    have hl' : d.length ≤ 7 := by simpa using hl
    have h1 := beU_cons d.length d a rfl hb hl'
    have r := beU_rg d.length d rfl (by omega) hd
    have hp3 : (0 : Int) < 256 ^ d.length := Int.pow_pos (by decide)
    simp only [List.length_cons, beB]
    have e1 : beU (a :: d) / 256 ^ d.length = a := by
      rw [h1, Int.add_comm, Int.add_mul_ediv_right _ _ (by omega), Int.ediv_eq_zero_of_lt r.1 r.2]; omega
    have e2 : beU (a :: d) % 256 ^ d.length = beU d := by
      rw [h1, Int.add_comm, Int.add_mul_emod_self_right, Int.emod_eq_of_lt r.1 r.2]
    rw [e1, e2, ih hd (by omega), Int.emod_eq_of_lt ha.1 ha.2]

/-! ### what was read is written as it was -/
def plN : Fd → List Nat
  | .n j _ _ => [j]
  | .f j => [j]
  | .l j => [100 + j]
def goodW : Fd → Prop
  | .n j w k => j < 100 ∧ ((k = .i64 ∧ (w = 1 ∨ w = 2 ∨ w = 4 ∨ w = 8)) ∨ (k = .u32 ∧ w = 4))
  | .f j => j < 100
  | .l j => j = 6 ∨ j = 27
theorem wrap_back {k : IntKind} {w : Nat} (h : (k = .i64 ∧ (w = 1 ∨ w = 2 ∨ w = 4 ∨ w = 8)) ∨ (k = .u32 ∧ w = 4)) {x : Int} (h0 : 0 ≤ x) (h1 : x < 256 ^ w) : IntKind.u64.wrap (k.wrap x) = x := by
  rcases h with ⟨rfl, rfl | rfl | rfl | rfl⟩ | ⟨rfl, rfl⟩
  · simp only [Int.pow_one] at h1; rw [IntKind.wrap_i64, X.wr_u64']; omega
  · rw [show (256 : Int) ^ 2 = 65536 by decide] at h1; rw [IntKind.wrap_i64, X.wr_u64']; omega
  · rw [show (256 : Int) ^ 4 = 4294967296 by decide] at h1; rw [IntKind.wrap_i64, X.wr_u64']; omega
  · rw [show (256 : Int) ^ 8 = 18446744073709551616 by decide] at h1; rw [IntKind.wrap_i64, X.wr_u64']; omega
  · rw [show (256 : Int) ^ 4 = 4294967296 by decide] at h1; rw [X.wr_u32, X.wr_u64']; omega
/-- What stands at a place: a number, or a list. -/
def pv (e : Ev) (j : Nat) : List Int := if j = 106 then e.nums else if j = 127 then e.mem else [e.n j]
theorem pv_n {e : Ev} {j : Nat} (h : j < 100) : pv e j = [e.n j] := by unfold pv; rw [if_neg (by omega), if_neg (by omega)]
theorem pv_l {e : Ev} {j : Nat} (h : j = 6 ∨ j = 27) : pv e (100 + j) = e.lst j := by rcases h with rfl | rfl <;> rfl
theorem pv_upd {e : Ev} {i j : Nat} {v : Int} (h : i ≠ j) : pv ⟨upd e.n j v, e.nums, e.mem⟩ i = pv e i := by
  unfold pv
  dsimp only
  rw [show upd e.n j v i = e.n i by
    unfold upd
    cases hb : Nat.beq i j with
    | false => rfl
    | true => exact absurd (Nat.eq_of_beq_eq_true hb) h]
theorem pv_setl {e : Ev} {i j : Nat} {l : List Int} (hj : j = 6 ∨ j = 27) (h : i ≠ 100 + j) : pv (e.setl j l) i = pv e i := by
  rcases hj with rfl | rfl
  · show pv ⟨e.n, l, e.mem⟩ i = _
    unfold pv
    rw [if_neg h, if_neg h]
  · show pv ⟨e.n, e.nums, l⟩ i = _
    unfold pv
    rw [if_neg (c := i = 127) h, if_neg (c := i = 127) h]
theorem upd_at (f : Nat → Int) (j : Nat) (v : Int) : upd f j v j = v := by simp [upd]
theorem setl_at {e : Ev} {j : Nat} {l : List Int} (hj : j = 6 ∨ j = 27) : (e.setl j l).lst j = l := by rcases hj with rfl | rfl <;> rfl
theorem rd_keep {l r : List Int} {e e' : Ev} {f : Fd} (hg : goodW f) (h : rdD (.good l e) f = .good r e') : ∀ j, j ∉ plN f → pv e' j = pv e j := by
  intro i hi
  cases f with
  | n j w k =>
    simp only [rdD] at h
    split at h
    · cases h; exact pv_upd (by simpa [plN] using hi)
    · cases h
  | f j =>
    cases l with
    | nil => cases h
    | cons x r0 =>
      simp only [rdD] at h
      split at h
      · cases h
      · cases h; exact pv_upd (by simpa [plN] using hi)
  | l j =>
    cases l with
    | nil => cases h
    | cons x r0 =>
      simp only [rdD] at h
      split at h
      · cases h
      · split at h
        · cases h
        · cases h; exact pv_setl hg (by simpa [plN] using hi)
theorem u8b_one {x : Int} (h : 0 ≤ x ∧ x < 256) : u8b x = [x] := by
  unfold u8b
  rw [X.wr_u64 h.1 (by omega)]
  simp [beB]; omega
theorem u8b_all : ∀ (l : List Int), Byt l → l.flatMap u8b = l
  | [], _ => rfl
  | x :: l, h => by rw [List.flatMap_cons, u8b_one (h x (by simp)), u8b_all l (fun u hu => h u (by simp [hu]))]; rfl
theorem fit_one {x : Int} (h : 0 ≤ x ∧ x < 256) : nofit 1 (IntKind.u64.wrap x) = false := by
  rw [X.wr_u64 h.1 (by omega)]
  have : x / 256 ^ 1 = 0 := by rw [Int.pow_one]; omega
  rw [Int.pow_one] at this
  simp [nofit, this]
theorem byt_drop {l : List Int} (h : Byt l) (n : Nat) : Byt (l.drop n) := fun u hu => h u (List.mem_of_mem_drop hu)
theorem byt_take {l : List Int} (h : Byt l) (n : Nat) : Byt (l.take n) := fun u hu => h u (List.mem_of_mem_take hu)
theorem rd_wr {l r : List Int} {e e' : Ev} {f : Fd} (hg : goodW f) (hb : Byt l) (h : rdD (.good l e) f = .good r e') : okD e' f = true ∧ l = wrD e' f ++ r ∧ Byt r := by
  cases f with
  | n j w k =>
    simp only [rdD] at h
    split at h
    · rename_i hl
      cases h
      have hw8 : w ≤ 8 := by rcases hg.2 with ⟨_, h | h | h | h⟩ | ⟨_, h⟩ <;> omega
      have hlen : (l.take w).length = w := by simp; omega
      have hr := beU_rg w (l.take w) hlen hw8 (byt_take hb w)
      have hback := wrap_back hg.2 hr.1 hr.2
      refine ⟨?_, ?_, byt_drop hb w⟩
      · simp only [okD, upd_at, hback]
        have : beU (l.take w) / 256 ^ w = 0 := Int.ediv_eq_zero_of_lt hr.1 hr.2
        simp [nofit, this]
      · simp only [wrD, upd_at, hback]
        have := beB_beU (l.take w) (byt_take hb w) (by omega)
        rw [hlen] at this
        rw [this, List.take_append_drop]
    · cases h
  | f j =>
    cases l with
    | nil => cases h
    | cons x r0 =>
      simp only [rdD] at h
      split at h
      · cases h
      · cases h
        have hx := hb x (by simp)
        refine ⟨rfl, ?_, fun u hu => hb u (by simp [hu])⟩
        simp only [wrD, upd_at]
        have : x = 0 ∨ x = 1 := by omega
        rcases this with rfl | rfl <;> rfl
  | l j =>
    cases l with
    | nil => cases h
    | cons x r0 =>
      simp only [rdD] at h
      split at h
      · cases h
      · split at h
        · cases h
        · cases h
          have hx := hb x (by simp)
          have hb0 : Byt r0 := fun u hu => hb u (by simp [hu])
          have hlen : (r0.take x.toNat).length = x.toNat := by simp; omega
          refine ⟨?_, ?_, byt_drop hb0 _⟩
          · simp only [okD, setl_at hg, hlen, Bool.and_eq_true, decide_eq_true_eq, List.all_eq_true, Bool.not_eq_true']
            exact ⟨by omega, fun u hu => fit_one (byt_take hb0 _ u hu)⟩
          · simp only [wrD, setl_at hg, hlen]
            rw [u8b_one (by omega), u8b_all _ (byt_take hb0 _), List.append_assoc, List.take_append_drop, Int.toNat_of_nonneg hx.1]; rfl
theorem dep {e e' : Ev} {f : Fd} (hg : goodW f) (h : ∀ j ∈ plN f, pv e j = pv e' j) : okD e f = okD e' f ∧ wrD e f = wrD e' f := by
  cases f with
  | n j w k =>
    have := h j (by simp [plN])
    rw [pv_n hg.1, pv_n hg.1] at this
    simp only [List.cons.injEq, and_true] at this
    simp only [okD, wrD, this, and_self]
  | f j =>
    have := h j (by simp [plN])
    rw [pv_n hg, pv_n hg] at this
    simp only [List.cons.injEq, and_true] at this
    simp only [okD, wrD, this, and_self]
  | l j =>
    have := h (100 + j) (by simp [plN])
    rw [pv_l hg, pv_l hg] at this
    simp only [okD, wrD, this, and_self]
theorem rdF_wr : ∀ (fs : List Fd) (l r : List Int) (e e' : Ev), rdF fs (.good l e) = .good r e' → (∀ f ∈ fs, goodW f) → (fs.flatMap plN).Nodup → Byt l → okF fs e' = true ∧ l = wrF fs e' ++ r ∧ Byt r ∧ ∀ j, j ∉ fs.flatMap plN → pv e' j = pv e j
  | [], l, r, e, e', h, _, _, hb => by cases h; exact ⟨rfl, rfl, hb, fun _ _ => rfl⟩
  | f :: fs, l, r, e, e', h, hg, hn, hb => by
    have h' : rdF fs (rdD (.good l e) f) = .good r e' := h
    have hgf := hg f (by simp)
    rw [List.flatMap_cons, List.nodup_append] at hn
    cases hr : rdD (.good l e) f with
    | short => rw [hr, rdF_short] at h'; cases h'
    | code => rw [hr, rdF_code] at h'; cases h'
    | good r1 e1 =>
      rw [hr] at h'
      obtain ⟨a1, a2, a3⟩ := rd_wr hgf hb hr
      obtain ⟨b1, b2, b3, b4⟩ := rdF_wr fs r1 r e1 e' h' (fun g hg' => hg g (by simp [hg'])) hn.2.1 a3
      have hd := dep (e := e') (e' := e1) hgf (fun j hj => b4 j (fun hh => hn.2.2 j hj j hh rfl))
      refine ⟨?_, ?_, b3, fun j hj => ?_⟩
      · simp only [okF, List.all_cons, Bool.and_eq_true] at b1 ⊢
        exact ⟨by rw [hd.1]; exact a1, b1⟩
      · simp only [wrF, List.flatMap_cons] at b2 ⊢
        rw [hd.2, List.append_assoc, ← b2]; exact a2
      · rw [List.flatMap_cons, List.mem_append, not_or] at hj
        rw [b4 j hj.2]; exact rd_keep hgf hr j hj.1

/-! ### events -/
theorem callF_good {k : Int} {fs : List Fd} (h : callF k = some fs) : (∀ f ∈ fs, goodW f) ∧ (0 :: 1 :: fs.flatMap plN).Nodup := by
  by_cases h1 : k = 1
  · subst h1; cases h; exact ⟨by simp [goodW], by decide⟩
  by_cases h2 : k = 2
  · subst h2; cases h; exact ⟨by simp [goodW], by decide⟩
  by_cases h3 : k = 3
  · subst h3; cases h; exact ⟨by simp [goodW], by decide⟩
  by_cases h10 : k = 10
  · subst h10; cases h; exact ⟨by simp [goodW], by decide⟩
  by_cases h13 : k = 13
  · subst h13; cases h; exact ⟨by simp [goodW], by decide⟩
  by_cases h16 : k = 16
  · subst h16; cases h; exact ⟨by simp [goodW], by decide⟩
  by_cases h18 : k = 18
  · subst h18; cases h; exact ⟨by simp [goodW], by decide⟩
  by_cases h19 : k = 19
  · subst h19; cases h; exact ⟨by simp [goodW], by decide⟩
  by_cases h4 : k = 4
  · subst h4; cases h; exact ⟨by simp [goodW], by decide⟩
  by_cases h5 : k = 5
  · subst h5; cases h; exact ⟨by simp [goodW], by decide⟩
  by_cases h6 : k = 6
  · subst h6; cases h; exact ⟨by simp [goodW], by decide⟩
  by_cases h7 : k = 7
  · subst h7; cases h; exact ⟨by simp [goodW], by decide⟩
  by_cases h8 : k = 8
  · subst h8; cases h; exact ⟨by simp [goodW], by decide⟩
  by_cases h9 : k = 9
  · subst h9; cases h; exact ⟨by simp [goodW], by decide⟩
  by_cases h11 : k = 11
  · subst h11; cases h; exact ⟨by simp [goodW], by decide⟩
  by_cases h12 : k = 12
  · subst h12; cases h; exact ⟨by simp [goodW], by decide⟩
  by_cases h20 : k = 20
  · subst h20; cases h; exact ⟨by simp [goodW], by decide⟩
  by_cases h14 : k = 14
  · subst h14; cases h; exact ⟨by simp [goodW], by decide⟩
  by_cases h15 : k = 15
  · subst h15; cases h; exact ⟨by simp [goodW], by decide⟩
  by_cases h17 : k = 17
  · subst h17; cases h; exact ⟨by simp [goodW], by decide⟩
  simp only [callF, h1, h2, h3, h10, h13, h16, h18, h19, h4, h5, h6, h7, h8, h9, h11, h12, h20, h14, h15, h17, if_false] at h
  cases h
theorem liveF_good {k : Int} {fs : List Fd} (h : liveF k = some fs) : (∀ f ∈ fs, goodW f) ∧ (0 :: 15 :: fs.flatMap plN).Nodup := by
  unfold liveF at h
  repeat' split at h
  all_goals first | (cases h; refine ⟨by simp [goodW], by decide⟩) | cases h
theorem pv_one {a b : Ev} {j : Nat} (hj : j < 100) (h : pv a j = pv b j) : a.n j = b.n j := by
  rw [pv_n hj, pv_n hj] at h; simpa using h
theorem sub_wr {j : Nat} (hj : j = 1 ∨ j = 15) {F : Int → Option (List Fd)} (hF : ∀ k fs, F k = some fs → (∀ f ∈ fs, goodW f) ∧ (0 :: j :: fs.flatMap plN).Nodup) {b r r1 : List Int} {e e1 : Ev} (hb : Byt b) (h1 : rdD (.good b zeroEv) (.n 0 1 .i64) = .good r1 e1) (h : subE (.good r1 e1) j F = .good r e) :
    ∃ fs, F (e.n j) = some fs ∧ e.n 0 = e1.n 0 ∧ okF (.n 0 1 .i64 :: .n j 1 .i64 :: fs) e = true ∧ b = wrF (.n 0 1 .i64 :: .n j 1 .i64 :: fs) e ++ r := by
  unfold subE at h
  cases h2 : rdD (.good r1 e1) (.n j 1 .i64) with
  | short => rw [h2] at h; cases h
  | code => rw [h2] at h; cases h
  | good r2 e2 =>
    rw [h2] at h
    dsimp only at h
    cases hf : F (e2.n j) with
    | none => rw [hf] at h; cases h
    | some fs =>
      rw [hf] at h
      dsimp only at h
      obtain ⟨g1, g2⟩ := hF _ _ hf
      have hg0 : goodW (.n 0 1 .i64) := ⟨by decide, .inl ⟨rfl, .inl rfl⟩⟩
      have hgj : goodW (.n j 1 .i64) := ⟨by rcases hj with rfl | rfl <;> decide, .inl ⟨rfl, .inl rfl⟩⟩
      have hall : ∀ f ∈ Fd.n 0 1 .i64 :: .n j 1 .i64 :: fs, goodW f := fun f hf => by
        rcases List.mem_cons.1 hf with rfl | hf
        · exact hg0
        · rcases List.mem_cons.1 hf with rfl | hf
          · exact hgj
          · exact g1 f hf
      have hw := rdF_wr (.n 0 1 .i64 :: .n j 1 .i64 :: fs) b r zeroEv e (by show rdF fs (rdD (rdD (.good b zeroEv) (.n 0 1 .i64)) (.n j 1 .i64)) = _; rw [h1, h2, h]) hall (by simpa [plN] using g2) hb
      have hb1 := (rd_wr hg0 hb h1).2.2
      have hb2 := (rd_wr hgj hb1 h2).2.2
      have k2 := (rdF_wr fs r2 r e2 e h g1 (List.nodup_cons.1 (List.nodup_cons.1 g2).2).2 hb2).2.2.2 j (List.nodup_cons.1 (List.nodup_cons.1 g2).2).1
      have k1 := (rdF_wr (.n j 1 .i64 :: fs) r1 r e1 e (by show rdF fs (rdD (.good r1 e1) (.n j 1 .i64)) = _; rw [h2, h]) (fun f hf => hall f (by simp [hf])) (by simpa [plN] using (List.nodup_cons.1 g2).2) hb1).2.2.2 0 (by simpa [plN] using (List.nodup_cons.1 g2).1)
      have hj100 : j < 100 := by rcases hj with rfl | rfl <;> decide
      exact ⟨fs, by rw [pv_one hj100 k2]; exact hf, pv_one (by decide) k1, hw.1, hw.2.1⟩
theorem rdE_wr {b r : List Int} {e : Ev} (hb : Byt b) (h : rdE b = .good r e) : okE e = true ∧ b = wrE e ++ r := by
  unfold rdE at h
  cases h1 : rdD (.good b zeroEv) (.n 0 1 .i64) with
  | short => rw [h1] at h; cases h
  | code => rw [h1] at h; cases h
  | good r1 e1 =>
    rw [h1] at h
    dsimp only at h
    split at h
    · rename_i hk
      obtain ⟨fs, a1, a2, a3, a4⟩ := sub_wr (.inl rfl) (fun k fs => callF_good) hb h1 h
      have hev : evF e = some (.n 0 1 .i64 :: .n 1 1 .i64 :: fs) := by unfold evF; rw [if_pos (a2.trans hk), a1]; rfl
      exact ⟨by unfold okE; rw [hev]; exact a3, by unfold wrE; rw [hev]; exact a4⟩
    · split at h
      · rename_i hk1 hk
        obtain ⟨fs, a1, a2, a3, a4⟩ := sub_wr (.inr rfl) (fun k fs => liveF_good) hb h1 h
        have hev : evF e = some (.n 0 1 .i64 :: .n 15 1 .i64 :: fs) := by unfold evF; rw [if_neg (by rw [a2, hk]; decide), if_pos (a2.trans hk), a1]; rfl
        exact ⟨by unfold okE; rw [hev]; exact a3, by unfold wrE; rw [hev]; exact a4⟩
      · split at h
        · rename_i hk1 hk2 hk
          have hg : ∀ f ∈ [Fd.n 0 1 .i64, .n 28 8 .i64], goodW f := by simp [goodW]
          have hw := rdF_wr [.n 0 1 .i64, .n 28 8 .i64] b r zeroEv e (by show rdD (rdD (.good b zeroEv) (.n 0 1 .i64)) (.n 28 8 .i64) = _; rw [h1, h]) hg (by decide) hb
          have hb1 := (rd_wr (hg _ (by simp)) hb h1).2.2
          have k1 := rd_keep (hg (.n 28 8 .i64) (by simp)) h 0 (by decide)
          have e0 := pv_one (by decide) k1
          have hev : evF e = some [.n 0 1 .i64, .n 28 8 .i64] := by unfold evF; rw [if_neg (by rw [e0, hk]; decide), if_neg (by rw [e0, hk]; decide), if_pos (e0.trans hk)]
          exact ⟨by unfold okE; rw [hev]; exact hw.1, by unfold wrE; rw [hev]; exact hw.2.1⟩
        · cases h
end Go.Proofs.Ytalafklnnohlgaa.Cod
