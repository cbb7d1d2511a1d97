/- The references' taker takes an event. Conditions: the bytes are such, and lie apart from the taker. -/
import Derived.Test.YtalafklnnohlgaaPur5
namespace Go.Proofs.Ytalafklnnohlgaa.Cod
open Go.RowKit X Go.Proofs.YtalafklnnohlgaaW.PrintLast
open Oct hiding agg39 size39
set_option linter.unusedVariables false
set_option linter.unusedSimpArgs false

theorem fldL_len {k s : Int} {ls : List Int} (h : fldL k s = some ls) : ls.length ≤ 4 := by
  have hT : ∀ T : List (List Int), (∀ l ∈ T, l.length ≤ 4) → ∀ j : Nat, T[j]? = some ls → ls.length ≤ 4 := fun T hT j hj => hT ls (List.mem_of_getElem? hj)
  unfold fldL at h
  split at h
  · exact hT callT (by decide) _ h
  split at h
  · exact hT liveT (by decide) _ h
  split at h
  · cases h; decide
  · cases h
theorem setF_ls (a : Ev) (f : Fd) (v : Int) : (setF a f v).nums = a.nums ∧ (setF a f v).mem = a.mem := by cases f <;> exact ⟨rfl, rfl⟩
def rows (e : Ev) (A6 : Option Addr) (c6 : Nat) (A27 : Option Addr) (c27 : Nat) : List Ck := [.row (.slice A6 e.nums.length c6) 3 1 e.nums.length (i64s e.nums), .row (.slice A27 e.mem.length c27) 3 1 e.mem.length (i64s e.mem)]
set_option maxHeartbeats 8000000 in
set_option maxRecDepth 100000 in
theorem act_con (tg : Nat) (A B : Option Addr) (c : Nat) (l : List Int) (wk : Nat) (er : Int) (hb : Byt l) (hc : l.length ≤ c) (hl : l.length ≤ 140737488355328) (hk : wk ≤ l.length) (ha : At A l.length wk B) :
    Con Try.prog 62 #[pt tg] (tkH tg B c l.length wk er) (fun W => BRd W (tkH tg B c l.length wk er) A l)
      (fun v H' => ∃ B' A6 c6 A27 c27 wk' er' e', actP l wk er = (wk', er', e') ∧ v = evV e' A6 c6 A27 c27 ∧ H' = tkH tg B' c l.length wk' er' ++ rows e' A6 c6 A27 c27 ∧ At A l.length wk' B' ∧ wk' ≤ l.length ∧ e'.nums.length ≤ 255 ∧ e'.mem.length ≤ 255) := by
  refine Con.intro Try.func62 rfl Try.ntmps62 rfl (fun W hR => ?_)
  have hread : ∀ {H H' : List Ck} {w' : World}, I ⟨W, fps (tkH tg B c l.length wk er)⟩ H w' → (∀ q ∈ H', q ∈ H) → BRd w' H' A l := fun hI hs => hR.nows rfl hI hs
  clear hR
  obtain ⟨E0, hE0⟩ : ∃ E0 : Env, E0 = ⟨W, fps (tkH tg B c l.length wk er)⟩ := ⟨_, rfl⟩
  rw [← hE0] at hread ⊢
  unfold pt
  repeat (first | refine WC.seq ?_ | refine WC.region ?_)
  refine WL.alloc zeroA (evC zeroEv.n (.slice none 0 0) (.slice none 0 0)) rfl (by decide) zero37 rfl (fun g2 => ?_)
  obtain ⟨z2, hz2⟩ : ∃ z : Ck, z = .blk g2 (evC zeroEv.n (.slice none 0 0) (.slice none 0 0)) 37 := ⟨_, rfl⟩
  rw [← hz2]
  repeat (first | refine WC.seq ?_ | refine WC.region ?_ | refine WL.move _ rfl (by decide) rfl ?_)
  refine WL.call [] [] [pt tg, .int .i64 1] _ (tkH tg B c l.length wk er) [z2] (num_con tg A B c l wk er 1 (by decide) hc hl hk ha) rfl (by decide) rfl Try.func61 rfl rfl rfl rfl (.swap _ _ _) (fun w hI => hread hI (fun q hq => .tail _ hq)) ?_
  rintro v H1 ⟨B1, rfl, rfl, ha1, hk1⟩
  have hp0 := nmP_0 hb wk er 1 (by decide)
  obtain ⟨p1, e1⟩ : ∃ p, nmP l wk er 1 = p := ⟨_, rfl⟩
  rw [e1] at ha1 hk1 hp0 ⊢
  obtain ⟨x, wk1, er1⟩ := p1
  dsimp only at ha1 hk1 hp0 ⊢
  rw [show (256 : Int) ^ 1 = 256 by decide] at hp0
  obtain ⟨er2, her2⟩ : ∃ e : Int, e = if er1 = 0 ∧ (x < 1 ∨ x > 3) then 361 else er1 := ⟨_, rfl⟩
  repeat (first | refine WL.nil ?_ | with_reducible refine QE.then_n ?_ | refine WL.assign _ rfl (by decide) rfl ?_ | refine WL.cv53_3 rfl (by decide) rfl ?_)
  refine WC.seq ?_
  repeat (first | refine WC.region ?_ | refine WL.nil ?_ | with_reducible refine QE.then_n ?_ | refine WL.assign _ rfl (by decide) rfl ?_)
  refine WC.cut (σ := Unit) (fun _ => [(3, .int .i64 x), (4, .int .i64 0), (0, .pointer (some ⟨tg, 0, none⟩)), (2, .pointer (some ⟨g2, 0, none⟩))]) (fun _ => tkH tg B1 c l.length wk1 er2 ++ [z2]) (fun _ => True) ?_ ?_
  rotate_left
  · refine WC.know (.int .i64 x) (s := 3) rfl (congrArg _ (wr_i64 (by omega) (by omega))) ?_
    unfold tkH
    simp only [List.cons_append, List.nil_append]
    repeat (first | refine WC.seq ?_ | refine WC.region ?_ | refine WL.move _ rfl (by decide) rfl ?_ | refine WL.bin _ _ _ rfl (by decide) rfl rfl (fun _ => rfl) ?_ | refine WL.nilc _ rfl (by decide) rfl ?_ | refine WL.fd101_1 rfl (by decide) rfl ?_ | refine WL.ld40 0 rfl (by decide) rfl rfl rfl ?_)
    refine WL.split 19 _ rfl (fun h1 => ?_) (fun h1 => ?_)
    · have h1 : er1 = 0 := by simpa using h1
      repeat (first | refine WL.move _ rfl (by decide) rfl ?_ | refine WL.bin _ _ _ rfl (by decide) rfl rfl (fun _ => rfl) ?_)
      refine WL.split 22 _ rfl (fun h2 => ?_) (fun h2 => ?_)
      · have h2 : x < 1 := of_decide_eq_true h2
        rw [if_pos ⟨h1, .inl h2⟩] at her2
        rw [her2]
        repeat (first | refine WC.region ?_ | refine WL.nil ?_ | with_reducible refine QE.then_n ?_ | refine WC.cond_t rfl ?_ | refine WL.move _ rfl (by decide) rfl ?_ | refine WL.nilc _ rfl (by decide) rfl ?_ | refine WL.off rfl (by decide) ?_ | refine WL.pick _ _ rfl (by decide) rfl rfl ?_ | refine WL.fd101_1 rfl (by decide) rfl ?_ | refine WL.st40 0 rfl rfl rfl rfl rfl rfl rfl rfl rfl ?_)
        exact QE.cut () trivial (.cons rfl (.cons rfl (.cons rfl (.cons rfl .nil)))) (.refl _)
      · have h2 : ¬ x < 1 := of_decide_eq_false h2
        repeat (first | refine WL.nil ?_ | with_reducible refine QE.then_n ?_ | refine WL.move _ rfl (by decide) rfl ?_ | refine WL.bin _ _ _ rfl (by decide) rfl rfl (fun _ => rfl) ?_ | refine WL.pick _ _ rfl (by decide) rfl rfl ?_)
        refine WC.cond _ rfl (fun h3 => ?_) (fun h3 => ?_)
        · have h3 : x > 3 := of_decide_eq_true h3
          rw [if_pos ⟨h1, .inr h3⟩] at her2
          rw [her2]
          repeat (first | refine WC.region ?_ | refine WL.nil ?_ | refine WL.move _ rfl (by decide) rfl ?_ | refine WL.nilc _ rfl (by decide) rfl ?_ | refine WL.fd101_1 rfl (by decide) rfl ?_ | refine WL.st40 0 rfl rfl rfl rfl rfl rfl rfl rfl rfl ?_)
          exact QE.cut () trivial (.cons rfl (.cons rfl (.cons rfl (.cons rfl .nil)))) (.refl _)
        · have h3 : ¬ x > 3 := of_decide_eq_false h3
          rw [if_neg (by omega)] at her2
          rw [her2]
          repeat (refine WC.skip ?_)
          exact QE.cut () trivial (.cons rfl (.cons rfl (.cons rfl (.cons rfl .nil)))) (.refl _)
    · have h1 : ¬ er1 = 0 := by simpa using h1
      rw [if_neg (by omega)] at her2
      rw [her2]
      repeat (first | refine WC.skip ?_ | refine WL.nil ?_ | with_reducible refine QE.then_n ?_ | refine WC.cond_f rfl ?_ | refine WL.off rfl (by decide) ?_ | refine WL.pick _ _ rfl (by decide) rfl rfl ?_ | refine WL.offu rfl (by decide) ?_)
      exact QE.cut () trivial (.cons rfl (.cons rfl (.cons rfl (.cons rfl .nil)))) (.refl _)
  rintro _ _
  obtain ⟨p2, e2⟩ : ∃ p, (if x = 3 then (0, wk1, er2) else nmP l wk1 er2 1) = p := ⟨_, rfl⟩
  have hp2 : 0 ≤ p2.1 ∧ p2.1 < 256 := by
    rw [← e2]
    split
    · exact ⟨Int.le_refl 0, show (0 : Int) < 256 by decide⟩
    · have := nmP_0 hb wk1 er2 1 (by decide)
      rwa [show (256 : Int) ^ 1 = 256 by decide] at this
  obtain ⟨y, wk2, er3⟩ := p2
  dsimp only at hp2
  refine WC.cut (σ := Option Addr) (fun _ => [(3, .int .i64 x), (4, .int .i64 y), (0, .pointer (some ⟨tg, 0, none⟩)), (2, .pointer (some ⟨g2, 0, none⟩))]) (fun B2 => tkH tg B2 c l.length wk2 er3 ++ [z2]) (fun B2 => At A l.length wk2 B2 ∧ wk2 ≤ l.length) ?_ ?_
  rotate_left
  · repeat (first | refine WC.seq ?_ | refine WC.region ?_ | refine WL.nil ?_ | with_reducible refine QE.then_n ?_ | refine WL.move _ rfl (by decide) rfl ?_ | refine WL.bin _ _ _ rfl (by decide) rfl rfl (fun _ => rfl) ?_)
    refine WC.cond _ rfl (fun h3 => ?_) (fun h3 => ?_)
    · have h3 : x ≠ 3 := by simpa using h3
      rw [if_neg h3] at e2
      repeat (first | refine WC.region ?_ | refine WL.move _ rfl (by decide) rfl ?_)
      refine WL.call [] [] [pt tg, .int .i64 1] _ (tkH tg B1 c l.length wk1 er2) [z2] (num_con tg A B1 c l wk1 er2 1 (by decide) hc hl hk1 ha1) rfl (by decide) rfl Try.func61 rfl rfl rfl rfl (.refl _) (fun w hI => hread hI (fun q hq => List.mem_append_left _ hq)) ?_
      rintro v H1 ⟨B2, rfl, rfl, ha2, hk2⟩
      rw [e2] at ha2 hk2 ⊢
      dsimp only at ha2 hk2 ⊢
      repeat (first | refine WL.nil ?_ | refine WL.assign _ rfl (by decide) rfl ?_ | refine WL.cv53_3 rfl (by decide) rfl ?_)
      exact QE.cut B2 ⟨ha2, hk2⟩ (.cons rfl (.eq rfl (congrArg _ (wr_i64 (by omega) (by omega))) (.cons rfl (.cons rfl .nil)))) (.refl _)
    · have h3 : x = 3 := by simpa using h3
      rw [if_pos h3] at e2
      cases e2
      repeat (refine WC.skip ?_)
      exact QE.cut B1 ⟨ha1, hk1⟩ (.cons rfl (.cons rfl (.cons rfl (.cons rfl .nil)))) (.refl _)
  rintro B2 ⟨ha2, hk2⟩
  repeat (first | refine WC.seq ?_ | refine WC.region ?_ | refine WL.move _ rfl (by decide) rfl ?_)
  refine WL.call [] [] [.int .i64 x, .int .i64 y] _ [] _ (fields_con x y) rfl (by decide) rfl Try.func72 rfl rfl rfl rfl (.refl _) (fun _ _ => trivial) ?_
  rintro v H1 ⟨rfl, rfl⟩
  rw [List.nil_append]
  obtain ⟨ls, hls⟩ : ∃ ls, ls = (fldL x y).getD [] := ⟨_, rfl⟩
  obtain ⟨ok, hok⟩ : ∃ ok, ok = (fldL x y).isSome := ⟨_, rfl⟩
  have hmem : ∀ q ∈ ls, ltO q := by
    cases hf : fldL x y with
    | none => rw [hls, hf]; exact fun q hq => by cases hq
    | some ls' => rw [hls, hf]; exact fldL_mem hf
  obtain ⟨er4, her4⟩ : ∃ e : Int, e = if er3 = 0 ∧ ok = false then 361 else er3 := ⟨_, rfl⟩
  have hlen : ls.length ≤ 4 := by
    cases hf : fldL x y with
    | none => rw [hls, hf]; exact Nat.zero_le _
    | some ls' => rw [hls, hf]; exact fldL_len hf
  have hact : actP l wk er = goT l ls wk2 er4 (bgE x y) := by
    unfold actP
    simp only [e1]
    rw [← her2]
    simp only [e2]
    rw [her4, hls, hok]
    cases hf : fldL x y with
    | none => simp
    | some ls' => simp
  rw [← hls, ← hok]
  repeat (first | refine WL.nil ?_ | with_reducible refine QE.then_n ?_ | refine WL.move _ rfl (by decide) rfl ?_ | refine WL.assign _ rfl (by decide) rfl ?_ | refine WL.extract _ _ rfl (by decide) rfl (fun _ => rfl) ?_)
  refine WC.cut (σ := Unit) (fun _ => [(3, .int .i64 x), (4, .int .i64 y), (5, .string (strOfNums ls)), (0, .pointer (some ⟨tg, 0, none⟩)), (2, .pointer (some ⟨g2, 0, none⟩))]) (fun _ => tkH tg B2 c l.length wk2 er4 ++ [z2]) (fun _ => True) ?_ ?_
  rotate_left
  · unfold tkH
    simp only [List.cons_append, List.nil_append]
    repeat (first | refine WC.seq ?_ | refine WC.region ?_ | refine WL.move _ rfl (by decide) rfl ?_ | refine WL.bin _ _ _ rfl (by decide) rfl rfl (fun _ => rfl) ?_ | refine WL.nilc _ rfl (by decide) rfl ?_ | refine WL.fd101_1 rfl (by decide) rfl ?_ | refine WL.ld40 0 rfl (by decide) rfl rfl rfl ?_)
    refine WL.split 46 _ rfl (fun h1 => ?_) (fun h1 => ?_)
    · have h1 : er3 = 0 := by simpa using h1
      cases hk3 : ok
      · rw [if_pos ⟨h1, hk3⟩] at her4
        rw [her4]
        repeat (first | refine WC.region ?_ | refine WL.nil ?_ | with_reducible refine QE.then_n ?_ | refine WC.cond_t rfl ?_ | refine WL.move _ rfl (by decide) rfl ?_ | refine WL.un _ _ rfl (by decide) rfl (fun _ => rfl) ?_ | refine WL.nilc _ rfl (by decide) rfl ?_ | refine WL.pick _ _ rfl (by decide) rfl rfl ?_ | refine WL.fd101_1 rfl (by decide) rfl ?_ | refine WL.st40 0 rfl rfl rfl rfl rfl rfl rfl rfl rfl ?_)
        exact QE.cut () trivial (.cons rfl (.cons rfl (.cons rfl (.cons rfl (.cons rfl .nil))))) (.refl _)
      · rw [if_neg (fun h => by rw [hk3] at h; cases h.2)] at her4
        rw [her4]
        repeat (first | refine WC.skip ?_ | refine WL.nil ?_ | with_reducible refine QE.then_n ?_ | refine WC.cond_f rfl ?_ | refine WL.move _ rfl (by decide) rfl ?_ | refine WL.un _ _ rfl (by decide) rfl (fun _ => rfl) ?_ | refine WL.pick _ _ rfl (by decide) rfl rfl ?_)
        exact QE.cut () trivial (.cons rfl (.cons rfl (.cons rfl (.cons rfl (.cons rfl .nil))))) (.refl _)
    · have h1 : ¬ er3 = 0 := by simpa using h1
      rw [if_neg (fun h => h1 h.1)] at her4
      rw [her4]
      repeat (first | refine WC.skip ?_ | refine WL.nil ?_ | with_reducible refine QE.then_n ?_ | refine WC.cond_f rfl ?_ | refine WL.off rfl (by decide) ?_ | refine WL.pick _ _ rfl (by decide) rfl rfl ?_)
      exact QE.cut () trivial (.cons rfl (.cons rfl (.cons rfl (.cons rfl (.cons rfl .nil))))) (.refl _)
  rintro _ _
  clear hok hls her4 her2 e2 e1
  unfold tkH
  simp only [List.cons_append, List.nil_append]
  repeat (first | refine WC.seq ?_ | refine WC.region ?_ | refine WL.move _ rfl (by decide) rfl ?_)
  refine WL.call [] [] [.int .i64 x, .int .i64 y] _ [] _ (begun_con x y) rfl (by decide) rfl Try.func74 rfl rfl rfl rfl (.refl _) (fun _ _ => trivial) ?_
  rintro v H1 ⟨rfl, rfl⟩
  rw [List.nil_append]
  refine WL.alloc zeroA (evC zeroEv.n (.slice none 0 0) (.slice none 0 0)) rfl (by decide) zero37 rfl (fun g7 => ?_)
  refine WL.st37 0 (cs' := evC (bgE x y).n (.slice none 0 0) (.slice none 0 0)) rfl rfl rfl rfl rfl rfl rfl rfl rfl ?_
  repeat (first | refine WC.seq ?_ | refine WC.region ?_ | refine WC.block ?_ | refine WL.assign _ rfl (by decide) rfl ?_)
  refine WC.nilrow 3 1 (WC.nilrow 3 1 ?_)
  refine WC.perm (tkH tg B2 c l.length wk2 er4 ++ (.blk g7 (evC (bgE x y).n (.slice none 0 0) (.slice none 0 0)) 37 :: (rows (bgE x y) none 0 none 0 ++ [z2]))) (by
    simp only [tkH, rows, List.cons_append, List.nil_append]
    exact (List.Perm.swap _ _ _).trans ((List.perm_append_comm (l₁ := [_, _]) (l₂ := [_, _])).append_right [z2])) ?_
  refine WC.loop (σ := Nat × Option Addr × Nat × Int × Ev × Option Addr × Nat × Option Addr × Nat) (fun s => [(8, .int .i64 s.1), (5, .string (strOfNums ls)), (7, .pointer (some ⟨g7, 0, none⟩)), (0, .pointer (some ⟨tg, 0, none⟩)), (2, .pointer (some ⟨g2, 0, none⟩))])
    (fun s => tkH tg s.2.1 c l.length s.2.2.1 s.2.2.2.1 ++ (.blk g7 (evC s.2.2.2.2.1.n (.slice s.2.2.2.2.2.1 s.2.2.2.2.1.nums.length s.2.2.2.2.2.2.1) (.slice s.2.2.2.2.2.2.2.1 s.2.2.2.2.1.mem.length s.2.2.2.2.2.2.2.2)) 37 :: (rows s.2.2.2.2.1 s.2.2.2.2.2.1 s.2.2.2.2.2.2.1 s.2.2.2.2.2.2.2.1 s.2.2.2.2.2.2.2.2 ++ [z2])))
    (fun s => s.1 ≤ ls.length ∧ At A l.length s.2.2.1 s.2.1 ∧ s.2.2.1 ≤ l.length ∧ s.2.2.2.2.1.nums.length ≤ 255 ∧ s.2.2.2.2.1.mem.length ≤ 255 ∧ goT l (ls.drop s.1) s.2.2.1 s.2.2.2.1 s.2.2.2.2.1 = actP l wk er) (fun s => ls.length - s.1)
    (0, B2, wk2, er4, bgE x y, none, 0, none, 0) ⟨Nat.zero_le _, ha2, hk2, Nat.zero_le _, Nat.zero_le _, hact.symm⟩ (.cons rfl (.cons rfl (.cons rfl (.cons rfl (.cons rfl .nil))))) (.refl _) ?_
  rintro ⟨i, B3, wk3, er5, e, A6, c6, A27, c27⟩ ⟨g1, g2', g3, g4, g5, g6⟩
  dsimp only at g1 g2' g3 g4 g5 g6 ⊢
  have hlast : (er5 = 0 → ls.length ≤ i) → actP l wk er = (wk3, er5, e) := fun h => by
    rw [← g6]
    by_cases h0 : er5 = 0
    · rw [List.drop_eq_nil_of_le (h h0)]; rfl
    · exact go_stop h0 _ _ _
  unfold tkH rows
  simp only [List.cons_append, List.nil_append]
  repeat (first | refine WC.seq ?_ | refine WC.region ?_ | refine WL.move _ rfl (by decide) rfl ?_)
  refine WL.lenS ls Try.underlying9 rfl (by decide) rfl ?_
  repeat (first | refine WL.move _ rfl (by decide) rfl ?_ | refine WL.bin _ _ _ rfl (by decide) rfl rfl (fun _ => rfl) ?_)
  refine WL.split 60 _ rfl (fun hlt => ?_) (fun hlt => ?_)
  rotate_left
  · have hlt : ¬ (i : Int) < ls.length := of_decide_eq_false hlt
    repeat (first | refine WC.seq ?_ | refine WC.region ?_ | refine WC.exit ?_ | refine WL.nil ?_ | with_reducible refine QE.then_n ?_ | refine WC.cond_f rfl ?_ | refine WL.off rfl (by decide) ?_ | refine WL.pick _ _ rfl (by decide) rfl rfl ?_ | refine WL.ld37 1 rfl (by decide) rfl rfl rfl rfl ?_)
    rw [hz2]
    refine WL.st37 4 (cs' := evC e.n (.slice A6 e.nums.length c6) (.slice A27 e.mem.length c27)) rfl rfl rfl rfl rfl rfl rfl rfl rfl ?_
    repeat (refine WC.ret ?_)
    exact QE.retc1 4 g2 29 (evC e.n (.slice A6 e.nums.length c6) (.slice A27 e.mem.length c27)) 37 (tkH tg B3 c l.length wk3 er5 ++ rows e A6 c6 A27 c27) rfl agg37 size37 rfl rfl rfl (.cons_cons _ (.cons _ (.cons_cons _ (.cons_cons _ (.cons _ .slnil))))) ⟨B3, A6, c6, A27, c27, wk3, er5, e, hlast (fun _ => by omega), rfl, rfl, g2', g3, g4, g5⟩
  have hlt : (i : Int) < ls.length := of_decide_eq_true hlt
  repeat (first | refine WL.nil ?_ | with_reducible refine QE.then_n ?_ | refine WL.move _ rfl (by decide) rfl ?_ | refine WL.bin _ _ _ rfl (by decide) rfl rfl (fun _ => rfl) ?_ | refine WL.nilc _ rfl (by decide) rfl ?_ | refine WL.pick _ _ rfl (by decide) rfl rfl ?_ | refine WL.fd101_1 rfl (by decide) rfl ?_ | refine WL.ld40 0 rfl (by decide) rfl rfl rfl ?_)
  refine WC.cond _ rfl (fun he => ?_) (fun he => ?_)
  rotate_left
  · have he : ¬ er5 = 0 := by simpa using he
    repeat (first | refine WC.seq ?_ | refine WC.region ?_ | refine WC.exit ?_ | refine WL.ld37 1 rfl (by decide) rfl rfl rfl rfl ?_)
    rw [hz2]
    refine WL.st37 4 (cs' := evC e.n (.slice A6 e.nums.length c6) (.slice A27 e.mem.length c27)) rfl rfl rfl rfl rfl rfl rfl rfl rfl ?_
    repeat (refine WC.ret ?_)
    exact QE.retc1 4 g2 29 (evC e.n (.slice A6 e.nums.length c6) (.slice A27 e.mem.length c27)) 37 (tkH tg B3 c l.length wk3 er5 ++ rows e A6 c6 A27 c27) rfl agg37 size37 rfl rfl rfl (.cons_cons _ (.cons _ (.cons_cons _ (.cons_cons _ (.cons _ .slnil))))) ⟨B3, A6, c6, A27, c27, wk3, er5, e, hlast (fun h => absurd h he), rfl, rfl, g2', g3, g4, g5⟩
  have he : er5 = 0 := by simpa using he
  subst he
  obtain ⟨cc, hcc⟩ : ∃ cc, ls[i]? = some cc := ⟨_, List.getElem?_eq_getElem (by omega)⟩
  have hO := hmem cc (List.mem_of_getElem? hcc)
  have hdr : ls.drop i = cc :: ls.drop (i + 1) := by
    rw [List.drop_eq_getElem_cons (by omega), (List.getElem?_eq_some_iff.1 hcc).2]
  have hstep : ∀ wk' er' e', stepT l cc wk3 0 e = (wk', er', e') → goT l (ls.drop (i + 1)) wk' er' e' = actP l wk er := fun wk' er' e' h => by
    rw [← g6, hdr]; simp only [goT, if_pos, h]
  repeat (first | refine WC.seq ?_ | refine WC.region ?_ | refine WC.block ?_ | refine WC.skip ?_ | refine WL.move _ rfl (by decide) rfl ?_)
  refine WL.idxS ls .i64 i cc Try.underlying9 rfl (by decide) rfl rfl (by omega) hcc (ltO_rg hO) ?_
  repeat (first | refine WC.seq ?_ | refine WC.region ?_ | refine WC.block ?_ | refine WL.nil ?_ | with_reducible refine QE.then_n ?_ | refine WL.move _ rfl (by decide) rfl ?_ | refine WL.assign _ rfl (by decide) rfl ?_ | refine WL.bin _ _ _ rfl (by decide) rfl rfl (fun _ => rfl) ?_)
  rcases hO with hv | hv | hv | hv | hv
  rotate_left
  · subst hv
    repeat (first | refine WC.region ?_ | refine WC.cond_t rfl ?_ | refine WL.move _ rfl (by decide) rfl ?_)
    obtain ⟨p1, q1⟩ : ∃ p, nmP l wk3 0 4 = p := ⟨_, rfl⟩
    obtain ⟨p2, q2⟩ : ∃ p, nmP l p1.2.1 p1.2.2 4 = p := ⟨_, rfl⟩
    refine WL.call [] [] [pt tg] _ (tkH tg B3 c l.length wk3 0) [.blk g7 (evC e.n (.slice A6 e.nums.length c6) (.slice A27 e.mem.length c27)) 37, .row (.slice A6 e.nums.length c6) 3 1 e.nums.length (i64s e.nums), .row (.slice A27 e.mem.length c27) 3 1 e.mem.length (i64s e.mem), z2] (maskT_con tg A B3 c l wk3 0 hc hl g3 g2' p1 p2 q1 q2) rfl (by decide) rfl Try.func84 rfl rfl rfl rfl (.refl _) (fun w hI => hread hI (fun q hq => List.mem_append_left _ hq)) ?_
    rintro v H1 ⟨B4, rfl, rfl, ha4, hk4⟩
    have hs := hstep p2.2.1 p2.2.2 ⟨upd (upd e.n 13 (IntKind.u32.wrap p1.1)) 14 (IntKind.u32.wrap p2.1), e.nums, e.mem⟩ (by simp only [stepT, q1, q2]; rfl)
    unfold tkH
    simp only [List.cons_append, List.nil_append]
    repeat (first | refine WC.region ?_ | refine WL.nil ?_ | refine WL.move _ rfl (by decide) rfl ?_ | refine WL.assign _ rfl (by decide) rfl ?_ | refine WL.bin _ _ _ rfl (by decide) rfl rfl (fun _ => rfl) ?_ | refine WL.fd33_9 rfl (by decide) rfl ?_ | refine WL.fd37_1 rfl (by decide) rfl ?_ | refine WL.st31 1 rfl rfl rfl rfl rfl rfl rfl rfl rfl ?_)
    exact QE.round (i + 1, B4, p2.2.1, p2.2.2, ⟨upd (upd e.n 13 (IntKind.u32.wrap p1.1)) 14 (IntKind.u32.wrap p2.1), e.nums, e.mem⟩, A6, c6, A27, c27) ⟨by dsimp only; omega, ha4, hk4, g4, g5, hs⟩ (by dsimp only; omega) (.eq rfl (by congr 1; rw [wr_i64 (by omega) (by omega)]; dsimp only; omega) (.cons rfl (.cons rfl (.cons rfl (.cons rfl .nil))))) (.refl _)
  · subst hv
    repeat (first | refine WC.seq ?_ | refine WC.region ?_ | refine WL.nil ?_ | with_reducible refine QE.then_n ?_ | refine WC.cond_t rfl ?_ | refine WC.cond_f rfl ?_ | refine WL.move _ rfl (by decide) rfl ?_ | refine WL.assign _ rfl (by decide) rfl ?_ | refine WL.bin _ _ _ rfl (by decide) rfl rfl (fun _ => rfl) ?_)
    obtain ⟨p1, q1⟩ : ∃ p, nmP l wk3 0 4 = p := ⟨_, rfl⟩
    obtain ⟨p2, q2⟩ : ∃ p, nmP l p1.2.1 p1.2.2 4 = p := ⟨_, rfl⟩
    refine WL.call [] [] [pt tg] _ (tkH tg B3 c l.length wk3 0) [.blk g7 (evC e.n (.slice A6 e.nums.length c6) (.slice A27 e.mem.length c27)) 37, .row (.slice A6 e.nums.length c6) 3 1 e.nums.length (i64s e.nums), .row (.slice A27 e.mem.length c27) 3 1 e.mem.length (i64s e.mem), z2] (maskT_con tg A B3 c l wk3 0 hc hl g3 g2' p1 p2 q1 q2) rfl (by decide) rfl Try.func84 rfl rfl rfl rfl (.refl _) (fun w hI => hread hI (fun q hq => List.mem_append_left _ hq)) ?_
    rintro v H1 ⟨B4, rfl, rfl, ha4, hk4⟩
    have hs := hstep p2.2.1 p2.2.2 ⟨upd (upd e.n 24 (IntKind.u32.wrap p1.1)) 25 (IntKind.u32.wrap p2.1), e.nums, e.mem⟩ (by simp only [stepT, q1, q2]; rfl)
    unfold tkH
    simp only [List.cons_append, List.nil_append]
    repeat (first | refine WC.region ?_ | refine WL.nil ?_ | refine WL.move _ rfl (by decide) rfl ?_ | refine WL.assign _ rfl (by decide) rfl ?_ | refine WL.bin _ _ _ rfl (by decide) rfl rfl (fun _ => rfl) ?_ | refine WL.fd35_9 rfl (by decide) rfl ?_ | refine WL.fd37_2 rfl (by decide) rfl ?_ | refine WL.st31 1 rfl rfl rfl rfl rfl rfl rfl rfl rfl ?_)
    exact QE.round (i + 1, B4, p2.2.1, p2.2.2, ⟨upd (upd e.n 24 (IntKind.u32.wrap p1.1)) 25 (IntKind.u32.wrap p2.1), e.nums, e.mem⟩, A6, c6, A27, c27) ⟨by dsimp only; omega, ha4, hk4, g4, g5, hs⟩ (by dsimp only; omega) (.eq rfl (by congr 1; rw [wr_i64 (by omega) (by omega)]; dsimp only; omega) (.cons rfl (.cons rfl (.cons rfl (.cons rfl .nil))))) (.refl _)
  · subst hv
    repeat (first | refine WC.seq ?_ | refine WC.region ?_ | refine WL.nil ?_ | with_reducible refine QE.then_n ?_ | refine WC.cond_t rfl ?_ | refine WC.cond_f rfl ?_ | refine WL.move _ rfl (by decide) rfl ?_ | refine WL.assign _ rfl (by decide) rfl ?_ | refine WL.bin _ _ _ rfl (by decide) rfl rfl (fun _ => rfl) ?_)
    refine WL.call [] [] [pt tg] _ (tkH tg B3 c l.length wk3 0) [.blk g7 (evC e.n (.slice A6 e.nums.length c6) (.slice A27 e.mem.length c27)) 37, .row (.slice A6 e.nums.length c6) 3 1 e.nums.length (i64s e.nums), .row (.slice A27 e.mem.length c27) 3 1 e.mem.length (i64s e.mem), z2] (listT_con tg A B3 c l wk3 0 hb hc hl g3 g2') rfl (by decide) rfl Try.func85 rfl rfl rfl rfl (.refl _) (fun w hI => hread hI (fun q hq => List.mem_append_left _ hq)) ?_
    rintro v H1 ⟨B4, A', c', wk4, er4', xs, hlp, rfl, rfl, ha4, hk4, hxs⟩
    have hs := hstep wk4 er4' (e.setl 6 xs) (by simp only [stepT, hlp]; rfl)
    unfold tkH
    simp only [List.cons_append, List.nil_append]
    repeat (first | refine WC.region ?_ | refine WL.nil ?_ | refine WL.move _ rfl (by decide) rfl ?_ | refine WL.assign _ rfl (by decide) rfl ?_ | refine WL.bin _ _ _ rfl (by decide) rfl rfl (fun _ => rfl) ?_ | refine WL.fd33_5 rfl (by decide) rfl ?_ | refine WL.fd37_1 rfl (by decide) rfl ?_ | refine WL.st25 2 rfl rfl rfl rfl rfl rfl rfl rfl rfl ?_)
    refine QE.perm [.blk tg [.slice B4 (l.length - wk4) (c - wk4), .int .i64 er4'] 101, .blk g7 (evC e.n (.slice A' xs.length c') (.slice A27 e.mem.length c27)) 37, .row (.slice A6 e.nums.length c6) 3 1 e.nums.length (i64s e.nums), .row (.slice A' xs.length c') 3 1 xs.length (i64s xs), .row (.slice A27 e.mem.length c27) 3 1 e.mem.length (i64s e.mem), z2] (.cons _ (List.perm_append_comm (l₁ := [_, _]) (l₂ := [_]) |>.append_right _)) ?_
    exact QE.round (i + 1, B4, wk4, er4', e.setl 6 xs, A', c', A27, c27) ⟨by dsimp only; omega, ha4, hk4, hxs, g5, hs⟩ (by dsimp only; omega) (.eq rfl (by congr 1; rw [wr_i64 (by omega) (by omega)]; dsimp only; omega) (.cons rfl (.cons rfl (.cons rfl (.cons rfl .nil))))) (.cons_cons _ (.cons_cons _ (.cons _ (.refl _))))
  · subst hv
    repeat (first | refine WC.seq ?_ | refine WC.region ?_ | refine WL.nil ?_ | with_reducible refine QE.then_n ?_ | refine WC.cond_t rfl ?_ | refine WC.cond_f rfl ?_ | refine WL.move _ rfl (by decide) rfl ?_ | refine WL.assign _ rfl (by decide) rfl ?_ | refine WL.bin _ _ _ rfl (by decide) rfl rfl (fun _ => rfl) ?_)
    refine WL.call [] [] [pt tg] _ (tkH tg B3 c l.length wk3 0) [.blk g7 (evC e.n (.slice A6 e.nums.length c6) (.slice A27 e.mem.length c27)) 37, .row (.slice A6 e.nums.length c6) 3 1 e.nums.length (i64s e.nums), .row (.slice A27 e.mem.length c27) 3 1 e.mem.length (i64s e.mem), z2] (listT_con tg A B3 c l wk3 0 hb hc hl g3 g2') rfl (by decide) rfl Try.func85 rfl rfl rfl rfl (.refl _) (fun w hI => hread hI (fun q hq => List.mem_append_left _ hq)) ?_
    rintro v H1 ⟨B4, A', c', wk4, er4', xs, hlp, rfl, rfl, ha4, hk4, hxs⟩
    have hs := hstep wk4 er4' (e.setl 27 xs) (by simp only [stepT, hlp]; rfl)
    unfold tkH
    simp only [List.cons_append, List.nil_append]
    repeat (first | refine WC.region ?_ | refine WL.nil ?_ | refine WL.move _ rfl (by decide) rfl ?_ | refine WL.assign _ rfl (by decide) rfl ?_ | refine WL.bin _ _ _ rfl (by decide) rfl rfl (fun _ => rfl) ?_ | refine WL.fd35_11 rfl (by decide) rfl ?_ | refine WL.fd37_2 rfl (by decide) rfl ?_ | refine WL.st25 2 rfl rfl rfl rfl rfl rfl rfl rfl rfl ?_)
    refine QE.perm [.blk tg [.slice B4 (l.length - wk4) (c - wk4), .int .i64 er4'] 101, .blk g7 (evC e.n (.slice A6 e.nums.length c6) (.slice A' xs.length c')) 37, .row (.slice A6 e.nums.length c6) 3 1 e.nums.length (i64s e.nums), .row (.slice A' xs.length c') 3 1 xs.length (i64s xs), .row (.slice A27 e.mem.length c27) 3 1 e.mem.length (i64s e.mem), z2] (.cons _ (List.perm_append_comm (l₁ := [_, _]) (l₂ := [_]) |>.append_right _)) ?_
    exact QE.round (i + 1, B4, wk4, er4', e.setl 27 xs, A6, c6, A', c') ⟨by dsimp only; omega, ha4, hk4, g4, hxs, hs⟩ (by dsimp only; omega) (.eq rfl (by congr 1; rw [wr_i64 (by omega) (by omega)]; dsimp only; omega) (.cons rfl (.cons rfl (.cons rfl (.cons rfl .nil))))) (.cons_cons _ (.cons_cons _ (.cons_cons _ (.cons_cons _ (.cons _ (.refl _))))))
  obtain ⟨n1, n2, n3, n4, _, _⟩ := lets_ne hv
  refine WC.cond_f (by show some (Value.bool _) = _; simp [n1]) ?_
  repeat (first | refine WC.seq ?_ | refine WC.region ?_ | refine WL.nil ?_ | with_reducible refine QE.then_n ?_ | refine WL.assign _ rfl (by decide) rfl ?_ | refine WL.bin _ _ _ rfl (by decide) rfl rfl (fun _ => rfl) ?_)
  refine WC.cond_f (by show some (Value.bool _) = _; simp [n2]) ?_
  repeat (first | refine WC.seq ?_ | refine WC.region ?_ | refine WL.nil ?_ | with_reducible refine QE.then_n ?_ | refine WL.assign _ rfl (by decide) rfl ?_ | refine WL.bin _ _ _ rfl (by decide) rfl rfl (fun _ => rfl) ?_)
  refine WC.cond_f (by show some (Value.bool _) = _; simp [n3]) ?_
  repeat (first | refine WC.seq ?_ | refine WC.region ?_ | refine WL.nil ?_ | with_reducible refine QE.then_n ?_ | refine WL.assign _ rfl (by decide) rfl ?_ | refine WL.bin _ _ _ rfl (by decide) rfl rfl (fun _ => rfl) ?_)
  refine WC.cond_f (by show some (Value.bool _) = _; simp [n4]) ?_
  repeat (first | refine WC.seq ?_ | refine WC.region ?_ | refine WL.move _ rfl (by decide) rfl ?_)
  refine WL.call [] [] [.int .u8 cc] _ [] _ (width_con cc hv) rfl (by decide) rfl Try.func75 rfl rfl rfl rfl (.refl _) (fun _ _ => trivial) ?_
  rintro v H1 ⟨rfl, rfl⟩
  rw [List.nil_append]
  refine WL.call [] [] [pt tg, .int .i64 (wdF (ltF cc))] _ (tkH tg B3 c l.length wk3 0) [.blk g7 (evC e.n (.slice A6 e.nums.length c6) (.slice A27 e.mem.length c27)) 37, .row (.slice A6 e.nums.length c6) 3 1 e.nums.length (i64s e.nums), .row (.slice A27 e.mem.length c27) 3 1 e.mem.length (i64s e.mem), z2] (num_con tg A B3 c l wk3 0 (wdF (ltF cc)) wd_le hc hl g3 g2') rfl (by decide) rfl Try.func61 rfl rfl rfl rfl (.refl _) (fun w hI => hread hI (fun q hq => List.mem_append_left _ hq)) ?_
  rintro v H1 ⟨B4, rfl, rfl, ha4, hk4⟩
  have hs := hstep _ _ _ (by simp only [stepT, n1, n2, n3, n4, if_false]; rfl)
  obtain ⟨p4, q4⟩ : ∃ p, nmP l wk3 0 (wdF (ltF cc)) = p := ⟨_, rfl⟩
  rw [q4] at ha4 hk4 hs ⊢
  obtain ⟨u, wk4, er4'⟩ := p4
  dsimp only at ha4 hk4 hs ⊢
  obtain ⟨er6, her6⟩ : ∃ r : Int, r = if cc = 102 ∧ 1 < u then 361 else er4' := ⟨_, rfl⟩
  rw [← her6] at hs
  repeat (first | refine WL.nil ?_ | with_reducible refine QE.then_n ?_ | refine WL.assign _ rfl (by decide) rfl ?_)
  refine WC.cut (σ := Unit) (fun _ => [(8, .int .i64 i), (9, .int .u8 cc), (10, .int .u64 u), (5, .string (strOfNums ls)), (7, .pointer (some ⟨g7, 0, none⟩)), (0, .pointer (some ⟨tg, 0, none⟩)), (2, .pointer (some ⟨g2, 0, none⟩))]) (fun _ => tkH tg B4 c l.length wk4 er6 ++ [.blk g7 (evC e.n (.slice A6 e.nums.length c6) (.slice A27 e.mem.length c27)) 37, .row (.slice A6 e.nums.length c6) 3 1 e.nums.length (i64s e.nums), .row (.slice A27 e.mem.length c27) 3 1 e.mem.length (i64s e.mem), z2]) (fun _ => True) ?_ ?_
  · rintro _ _
    unfold tkH
    simp only [List.cons_append, List.nil_append]
    repeat (first | refine WC.region ?_ | refine WL.move _ rfl (by decide) rfl ?_ | refine WL.cv53_2 rfl (by decide) rfl ?_ | refine WL.ld37 1 rfl (by decide) rfl rfl rfl rfl ?_)
    refine WL.call [] [] [evV e A6 c6 A27 c27, .int .u8 cc, .int .i64 (IntKind.i64.wrap u)] _ [] _ (put_con e A6 A27 c6 c27 cc (IntKind.i64.wrap u) hv) rfl (by decide) rfl Try.func76 rfl rfl rfl rfl (.refl _) (fun _ _ => trivial) ?_
    rintro v H1 ⟨rfl, rfl⟩
    rw [List.nil_append]
    have hnm := setF_ls e (ltF cc) (IntKind.i64.wrap u)
    obtain ⟨e', he'⟩ : ∃ e', e' = setF e (ltF cc) (IntKind.i64.wrap u) := ⟨_, rfl⟩
    rw [← he'] at hs hnm ⊢
    unfold evV
    rw [hnm.1, hnm.2]
    repeat (first | refine WC.region ?_ | refine WL.nil ?_ | refine WL.move _ rfl (by decide) rfl ?_ | refine WL.assign _ rfl (by decide) rfl ?_ | refine WL.bin _ _ _ rfl (by decide) rfl rfl (fun _ => rfl) ?_ | refine WL.st37 1 rfl rfl rfl rfl rfl rfl rfl rfl rfl ?_)
    refine QE.round (i + 1, B4, wk4, er6, e', A6, c6, A27, c27) ⟨by dsimp only; omega, ha4, hk4, by rw [hnm.1]; exact g4, by rw [hnm.2]; exact g5, hs⟩ (by dsimp only; omega) (.eq rfl (by congr 1; rw [wr_i64 (by omega) (by omega)]; dsimp only; omega) (.cons rfl (.cons rfl (.cons rfl (.cons rfl .nil))))) ?_
    dsimp only
    rw [hnm.1, hnm.2]
    exact .refl _
  · unfold tkH
    simp only [List.cons_append, List.nil_append]
    repeat (first | refine WC.seq ?_ | refine WC.region ?_ | refine WL.move _ rfl (by decide) rfl ?_ | refine WL.bin _ _ _ rfl (by decide) rfl rfl (fun _ => rfl) ?_)
    refine WL.split 79 _ rfl (fun h1 => ?_) (fun h1 => ?_)
    · have h1 : cc = 102 := by simpa using h1
      repeat (first | refine WL.nil ?_ | with_reducible refine QE.then_n ?_ | refine WL.move _ rfl (by decide) rfl ?_ | refine WL.bin _ _ _ rfl (by decide) rfl rfl (fun _ => rfl) ?_ | refine WL.pick _ _ rfl (by decide) rfl rfl ?_)
      refine WC.cond _ rfl (fun h2 => ?_) (fun h2 => ?_)
      · have h2 : u > 1 := of_decide_eq_true h2
        rw [if_pos ⟨h1, h2⟩] at her6
        rw [her6]
        repeat (first | refine WC.region ?_ | refine WL.nil ?_ | refine WL.move _ rfl (by decide) rfl ?_ | refine WL.nilc _ rfl (by decide) rfl ?_ | refine WL.fd101_1 rfl (by decide) rfl ?_ | refine WL.st40 0 rfl rfl rfl rfl rfl rfl rfl rfl rfl ?_)
        exact QE.cut () trivial (.cons rfl (.cons rfl (.cons rfl (.cons rfl (.cons rfl (.cons rfl (.cons rfl .nil))))))) (.refl _)
      · have h2 : ¬ u > 1 := of_decide_eq_false h2
        rw [if_neg (fun h => h2 h.2)] at her6
        rw [her6]
        repeat (refine WC.skip ?_)
        exact QE.cut () trivial (.cons rfl (.cons rfl (.cons rfl (.cons rfl (.cons rfl (.cons rfl (.cons rfl .nil))))))) (.refl _)
    · have h1 : ¬ cc = 102 := by simpa using h1
      rw [if_neg (fun h => h1 h.1)] at her6
      rw [her6]
      repeat (first | refine WC.skip ?_ | refine WL.nil ?_ | with_reducible refine QE.then_n ?_ | refine WC.cond_f rfl ?_ | refine WL.off rfl (by decide) ?_ | refine WL.pick _ _ rfl (by decide) rfl rfl ?_)
      exact QE.cut () trivial (.cons rfl (.cons rfl (.cons rfl (.cons rfl (.cons rfl (.cons rfl (.cons rfl .nil))))))) (.refl _)
end Go.Proofs.Ytalafklnnohlgaa.Cod
