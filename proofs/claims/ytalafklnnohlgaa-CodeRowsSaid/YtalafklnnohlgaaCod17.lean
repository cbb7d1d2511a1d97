/- code's Events: the events of a row's bytes. Conditions: the bytes are such, and not too many. -/
import Derived.Test.YtalafklnnohlgaaCod16
namespace Go.Proofs.Ytalafklnnohlgaa.Cod
open Go.RowKit X Go.Proofs.YtalafklnnohlgaaW.PrintLast
open Oct hiding agg39 size39
set_option linter.unusedVariables false
set_option linter.unusedSimpArgs false

/-- So many events out of bytes, and what is left. -/
def evGo : Nat → List Int → List Ev × Res
  | 0, r => ([], .good r zeroEv)
  | k + 1, r => match rdE r with
    | .good r' e => (e :: (evGo k r').1, (evGo k r').2)
    | .short => ([], .short)
    | .code => ([], .code)
def endE : Res → Int
  | .good [] _ => 0
  | .good (_ :: _) _ => 361
  | .short => 7
  | .code => 361
def evG (b : List Int) : List Ev × Res := if b.length < 2 then ([], .short) else evGo (beU (b.take 2)).toNat (b.drop 2)
/-- What Events answers. -/
def evsP (b : List Int) : List Ev × Int × Int := if 2 ≤ b.length ∧ 2000 < beU (b.take 2) then ([], 0, 3) else (if endE (evG b).2 = 0 then (evG b).1 else [], ((evG b).1.length : Int), endE (evG b).2)
def emsR (ms : List Em) : List Ck := ms.flatMap emR
def emS (m : Em) : Prop := m.e.nums.length ≤ 255 ∧ m.e.mem.length ≤ 255
/-- Rows of events, and their lists' rows beside them. -/
def emsH (A : Option Addr) (c : Nat) (ms : List Em) : List Ck := .row (.slice A ms.length c) 37 29 ms.length (emsC ms) :: emsR ms
/-- What holds in the loop: b's events from byte wk on, n of them in all. -/
structure EL (b : List Int) (G : List Ev × Res) (n : Nat) (ms : List Em) (wk : Nat) (er : Int) (bad : Bool) : Prop where
  kw : wk ≤ b.length
  ke : er = 0 ∨ er = 7
  le : ms.length ≤ n
  sm : ∀ m ∈ ms, emS m
  go : er = 0 → bad = false → G = (es ms ++ (evGo (n - ms.length) (b.drop wk)).1, (evGo (n - ms.length) (b.drop wk)).2)
  sh : er = 7 → bad = false → G = (es ms, .short)
  cd : bad = true → G = (es ms, .code)
theorem EL.step {b : List Int} {G : List Ev × Res} {n : Nat} {ms : List Em} {wk wk' : Nat} {er' : Int} {bad' : Bool} {m : Em} (h : EL b G n ms wk 0 false) (hn : ms.length < n) (hm : emS m) (hwk : wk' ≤ b.length) (her : er' = 0 ∨ er' = 7) (hr : resOf bad' er' b wk' m.e = rdE (b.drop wk)) :
    (bad' = false ∧ er' = 0 ∧ EL b G n (ms ++ [m]) wk' er' bad') ∨ ((bad' = true ∨ er' = 7) ∧ EL b G n ms wk' er' bad') := by
  have hg := h.go rfl rfl
  obtain ⟨k, hk⟩ : ∃ k, n - ms.length = k + 1 := ⟨n - ms.length - 1, by omega⟩
  rw [hk] at hg
  cases hb : bad' with
  | true =>
    rw [hb] at hr
    have hr : Res.code = rdE (b.drop wk) := hr
    refine .inr ⟨.inl rfl, hwk, her, h.le, h.sm, (fun _ h => by cases h), (fun _ h => by cases h), fun _ => ?_⟩
    rw [hg]; simp only [evGo, ← hr, List.append_nil]
  | false =>
    rw [hb] at hr
    rcases her with rfl | rfl
    · have hr : Res.good (b.drop wk') m.e = rdE (b.drop wk) := hr
      refine .inl ⟨rfl, rfl, hwk, .inl rfl, by simp; omega, fun q hq => ?_, fun _ _ => ?_, (fun h => by cases h), (fun h => by cases h)⟩
      · rcases List.mem_append.1 hq with hq | hq
        · exact h.sm q hq
        · simp at hq; subst hq; exact hm
      · rw [hg, List.length_append, show n - (ms.length + [m].length) = k by simp; omega]
        simp only [evGo, ← hr, es, List.map_append, List.map_cons, List.map_nil, List.append_assoc, List.cons_append, List.nil_append]
    · have hr : Res.short = rdE (b.drop wk) := hr
      refine .inr ⟨.inr rfl, hwk, .inr rfl, h.le, h.sm, (fun h => by cases h), (fun _ _ => ?_), (fun h => by cases h)⟩
      rw [hg]; simp only [evGo, ← hr, List.append_nil]
theorem EL.done {b : List Int} {G : List Ev × Res} {n : Nat} {ms : List Em} {wk : Nat} {er : Int} {bad : Bool} (h : EL b G n ms wk er bad) (hx : ms.length = n ∨ bad = true ∨ er = 7) :
    G.1 = es ms ∧ endE G.2 = (if bad then 361 else if er = 7 then 7 else if wk < b.length then 361 else 0) := by
  cases hb : bad with
  | true => rw [h.cd hb]; exact ⟨rfl, rfl⟩
  | false =>
    rcases h.ke with he | he
    · have hl : ms.length = n := by
        rcases hx with hx | hx | hx
        · exact hx
        · rw [hb] at hx; cases hx
        · rw [he] at hx; cases hx
      rw [h.go he hb, hl, Nat.sub_self]
      simp only [evGo, List.append_nil, true_and, if_false, Bool.false_eq_true, he]
      rw [if_neg (by decide)]
      rcases Nat.lt_or_ge wk b.length with h1 | h1
      · rw [if_pos h1, List.drop_eq_getElem_cons h1]; rfl
      · rw [if_neg (by omega), List.drop_eq_nil_of_le h1]; rfl
    · rw [h.sh he hb]; rw [he]; exact ⟨rfl, rfl⟩
theorem permP (X : List Ck) (g : Ck) (Y : List Ck) : ((X ++ [g]) ++ Y).Perm (g :: (X ++ Y)) := List.Perm.append_right Y (X.perm_append_comm (l₂ := [g]))
theorem permQ (C : List Ck) (o g r1 r2 : Ck) (P : List Ck) : (C ++ (o :: g :: (P ++ [r1, r2]))).Perm (((o :: P) ++ C) ++ [g, r1, r2]) := by
  have h1 : (C ++ (o :: g :: (P ++ [r1, r2]))).Perm (o :: (C ++ (g :: (P ++ [r1, r2])))) := List.perm_middle
  refine h1.trans (.cons _ ?_)
  have h2 : (C ++ (g :: (P ++ [r1, r2]))).Perm ((g :: (P ++ [r1, r2])) ++ C) := List.perm_append_comm
  refine h2.trans ?_
  have h3 : ((P ++ C) ++ [g, r1, r2]).Perm (g :: ((P ++ C) ++ [r1, r2])) := List.perm_middle
  refine List.Perm.trans ?_ h3.symm
  refine .cons _ ?_
  show ((P ++ [r1, r2]) ++ C).Perm ((P ++ C) ++ [r1, r2])
  rw [List.append_assoc, List.append_assoc]
  exact List.Perm.append_left P List.perm_append_comm
theorem zero_room {b : List Int} {rg : Nat} {A : Option Addr} {c wk : Nat} {er : Int} {bad : Bool} (hw : wk ≤ b.length) (hn : b.length ≤ 140737488355328) (hb : Byt b) (he : er = 0 ∨ er = 7) : Cod.room 400 (.r rg A c b wk er bad) := ⟨hw, hn, hb, he⟩
set_option maxHeartbeats 8000000 in
set_option maxRecDepth 100000 in
theorem events_con (A : Option Addr) (c : Nat) (b : List Int) (hc : b.length ≤ c) (hn : b.length ≤ 140737488355328) (hb : Byt b) :
    Con Try.prog 20 #[.slice A b.length c] [] (fun w => Rds w A b.length 1 (b8 b)) (fun v H' => ∃ A' c' ms, v = .tuple #[.slice A' (ms : List Em).length c', .int .i64 (evsP b).2.1, .int .i64 (evsP b).2.2] ∧ es ms = (evsP b).1 ∧ H' = emsH A' c' ms ∧ (∀ m ∈ ms, emS m) ∧ ms.length ≤ 2000) := by
  refine Con.intro Try.func20 rfl Try.ntmps20 rfl (fun w hR => ?_)
  repeat (first | refine WC.seq ?_ | refine WC.region ?_ | refine WL.move _ rfl (by decide) rfl ?_ | refine WL.assign _ rfl (by decide) rfl ?_)
  refine WL.call [] [] [.slice A b.length c] _ [] _ (read_con A c b hc hn) rfl (by decide) rfl Try.func35 rfl rfl rfl rfl (.refl _) (fun w hI => Oct.kept0 hR hI.kp rfl) ?_
  rintro v H1 ⟨rg, A1, c1, rfl, rfl⟩
  unfold rd
  skip
  refine WL.build [(0, pt rg)] (.agg #[pt rg, .slice none 0 0, .bool false]) rfl (by decide) rfl (fun w => by kernel_rfl) ?_
  refine WL.alloc (.agg #[.pointer none, .slice none 0 0, .bool false]) [.pointer none, .slice none 0 0, .bool false] rfl (by decide) (fun w => by kernel_rfl) rfl (fun cg => ?_)
  repeat (first | refine WC.seq ?_ | refine WC.region ?_ | refine WL.fd96_0 rfl (by decide) rfl ?_ | refine WL.ld68 0 rfl (by decide) rfl rfl rfl ?_ | refine WL.st96 0 rfl rfl rfl rfl rfl rfl rfl rfl rfl ?_)
  refine WL.call [] [] [pt rg] _ _ [.blk cg [pt rg, .slice none 0 0, .bool false] 96] (get2_con rg c1 0 A1 b 0 (Nat.zero_le _) hn) rfl (by decide) rfl Try.func44 rfl rfl rfl rfl (List.perm_append_comm (l₁ := [_, _]) (l₂ := [_])) (fun _ _ => trivial) ?_
  rintro v H1 ⟨rfl, rfl⟩
  unfold rd
  refine WL.perm _ (List.perm_append_comm (l₁ := [_])) ?_
  obtain ⟨n, wk, er, hv, hG, hw1, he1, h2000⟩ : ∃ (n wk : Nat) (er : Int), IntKind.i64.wrap (IntKind.u16.wrap (beU (tkR b 0 0 2))) = n ∧ (n ≤ 2000 → EL b (evG b) n [] wk er false) ∧ wkR b.length 0 0 2 = wk ∧ erR b.length 0 0 2 = er ∧ (2000 < n ↔ (2 ≤ b.length ∧ 2000 < beU (b.take 2))) := by
    by_cases h2 : 0 + 2 ≤ b.length
    · obtain ⟨t1, t2, t3⟩ := tkR_good h2
      have h2' : 2 ≤ b.length := by omega
      have hlen : (b.take 2).length = 2 := by simp; omega
      have hr := beU_rg 2 (b.take 2) hlen (by decide) (byt_take hb 2)
      have h256 : (256 : Int) ^ 2 = 65536 := by decide
      refine ⟨(beU (b.take 2)).toNat, 2, 0, ?_, fun _ => ⟨h2', .inl rfl, Nat.zero_le _, (fun _ h => by cases h), (fun _ _ => ?_), (fun h => by cases h), (fun h => by cases h)⟩, t2, t3, ?_⟩
      · rw [show tkR b 0 0 2 = (b.drop 0).take 2 from t1, List.drop_zero, wr_u16, wr_i64 (by omega) (by omega)]; omega
      · unfold evG; rw [if_neg (by omega)]; rfl
      · constructor
        · intro h; exact ⟨h2', by omega⟩
        · rintro ⟨_, h⟩; omega
    · obtain ⟨t1, t2, t3⟩ := tkR_short (Nat.zero_le _) h2
      refine ⟨0, 0, 7, ?_, fun _ => ⟨Nat.zero_le _, .inr rfl, Nat.zero_le _, (fun _ h => by cases h), (fun h => by cases h), (fun _ _ => ?_), (fun h => by cases h)⟩, t2, t3, ?_⟩
      · rw [show tkR b 0 0 2 = [] from t1]; decide
      · unfold evG; rw [if_pos (by omega)]; rfl
      · constructor
        · intro h; omega
        · rintro ⟨h, _⟩; omega
  rw [hw1, he1]
  repeat (first | refine WC.seq ?_ | refine WC.region ?_ | refine WL.nil ?_ | with_reducible refine QE.then_n ?_ | refine WL.move _ rfl (by decide) rfl ?_ | refine WL.assign _ rfl (by decide) rfl ?_ | refine WL.bin _ _ _ rfl (by decide) rfl rfl (fun _ => rfl) ?_ | refine WL.cv55_3 rfl (by decide) rfl ?_)
  simp only [hv]
  refine WC.cond _ rfl (fun hbg => ?_) (fun hbg => ?_)
  · have hbg : (n : Int) > 2000 := of_decide_eq_true hbg
    have e1 : evsP b = ([], 0, 3) := by unfold evsP; rw [if_pos (h2000.1 (by omega))]
    repeat (first | refine WC.seq ?_ | refine WC.region ?_ | refine WC.ret ?_ | with_reducible refine QE.then_r ?_ | refine WL.assign _ rfl (by decide) rfl ?_)
    refine QE.nilrow 37 29 ?_
    exact QE.ret3 (.slice none 0 0) (.int .i64 0) (.int .i64 3) [_] rfl rfl rfl rfl (.cons_cons _ (List.nil_sublist _)) ⟨none, 0, [], by rw [e1]; rfl, by rw [e1]; rfl, rfl, (fun _ h => by cases h), Nat.zero_le _⟩
  have hbg : ¬ (n : Int) > 2000 := of_decide_eq_false hbg
  have hn2 : n ≤ 2000 := by omega
  have hEL := hG hn2
  have e1 : evsP b = (if endE (evG b).2 = 0 then (evG b).1 else [], ((evG b).1.length : Int), endE (evG b).2) := by unfold evsP; rw [if_neg (fun h => by have := h2000.2 h; omega)]
  repeat (first | refine WC.skip ?_ | with_reducible refine QE.then_n ?_)
  refine WC.seq ?_
  repeat (first | refine WC.region ?_ | refine WL.nil ?_ | with_reducible refine QE.then_n ?_ | refine WL.assign _ rfl (by decide) rfl ?_)
  refine WC.nilrow 37 29 ?_
  refine WC.perm [.blk cg [pt rg, .slice none 0 0, .bool false] 96, .blk rg [.slice A1 b.length c1, .int .i64 wk, .int .i64 er] 109, .row (.slice A1 b.length c1) 5 1 b.length (b8 b), .row (.slice none 0 0) 37 29 0 []] (List.perm_append_comm (l₁ := [_, _, _]) (l₂ := [_])) ?_
  refine WC.cut (σ := List Em × Option Addr × Nat × Nat × Int × Bool) (fun x => [(7, .slice x.2.1 x.1.length x.2.2.1), (5, .pointer (some ⟨cg, 0, none⟩))]) (fun x => .blk cg [pt rg, .slice none 0 0, .bool x.2.2.2.2.2] 96 :: .blk rg [.slice A1 b.length c1, .int .i64 x.2.2.2.1, .int .i64 x.2.2.2.2.1] 109 :: .row (.slice A1 b.length c1) 5 1 b.length (b8 b) :: .row (.slice x.2.1 x.1.length x.2.2.1) 37 29 x.1.length (emsC x.1) :: emsR x.1) (fun x => EL b (evG b) n x.1 x.2.2.2.1 x.2.2.2.2.1 x.2.2.2.2.2 ∧ (x.1.length = n ∨ x.2.2.2.2.2 = true ∨ x.2.2.2.2.1 = 7)) ?_ ?_
  · rintro ⟨ms, A2, c2, wk2, er2, bad⟩ ⟨hel, hx⟩
    dsimp only at hel hx ⊢
    obtain ⟨d1, d2⟩ := hel.done hx
    have hmle := hel.le
    have hwk2 := hel.kw
    repeat (first | refine WC.seq ?_ | refine WC.region ?_)
    refine WL.call [] [] [pt cg] _ _ (.row (.slice A2 ms.length c2) 37 29 ms.length (emsC ms) :: emsR ms) (fault_con rg A1 c1 b wk2 er2 bad cg) rfl (by decide) rfl Try.func60 rfl rfl rfl rfl (.refl _) (fun _ _ => trivial) ?_
    rintro v H1 ⟨rfl, rfl⟩
    simp only [carH, List.cons_append, List.nil_append]
    cases hbd : bad with
    | true =>
      rw [hbd] at d2
      simp only [if_true] at d2 ⊢
      repeat (first | refine WC.seq ?_ | refine WC.region ?_ | refine WC.skip ?_ | refine WC.ret ?_ | refine WL.nil ?_ | with_reducible refine QE.then_n ?_ | with_reducible refine QE.then_r ?_ | refine WC.cond_t rfl ?_ | refine WC.cond_f rfl ?_ | refine WL.move _ rfl (by decide) rfl ?_ | refine WL.assign _ rfl (by decide) rfl ?_ | refine WL.bin _ _ _ rfl (by decide) rfl rfl (fun _ => rfl) ?_ | refine WL.off rfl (by decide) ?_ | refine WL.pick _ _ rfl (by decide) rfl rfl ?_ | refine WL.ln22 rfl (by decide) rfl ?_)
      refine QE.nilrow 37 29 ?_
      exact QE.ret3 (.slice none 0 0) (.int .i64 ms.length) (.int .i64 361) [_] rfl rfl rfl rfl (.cons_cons _ (List.nil_sublist _)) ⟨none, 0, [], by rw [e1, d1, d2]; simp [es], by rw [e1, d2]; simp [es], rfl, (fun _ h => by cases h), Nat.zero_le _⟩
    | false =>
    rw [hbd] at d2
    simp only [if_false, Bool.false_eq_true] at d2 ⊢
    rcases hel.ke with rfl | rfl
    · rw [if_neg (by decide)] at d2
      repeat (first | refine WC.seq ?_ | refine WC.region ?_ | refine WL.move _ rfl (by decide) rfl ?_ | refine WL.assign _ rfl (by decide) rfl ?_ | refine WL.bin _ _ _ rfl (by decide) rfl rfl (fun _ => rfl) ?_ | refine WL.fd96_0 rfl (by decide) rfl ?_ | refine WL.ld68 0 rfl (by decide) rfl rfl rfl ?_)
      refine WL.call [] [] [pt rg] _ _ (.blk cg [pt rg, .slice none 0 0, .bool false] 96 :: .row (.slice A2 ms.length c2) 37 29 ms.length (emsC ms) :: emsR ms) (left_con rg c1 wk2 A1 b 0 hwk2) rfl (by decide) rfl Try.func38 rfl rfl rfl rfl (List.perm_middle (l₁ := [_, _])) (fun _ _ => trivial) ?_
      rintro v H1 ⟨rfl, rfl⟩
      unfold rd
      simp only [List.cons_append, List.nil_append]
      repeat (first | refine WL.nil ?_ | with_reducible refine QE.then_n ?_ | refine WL.bin _ _ _ rfl (by decide) rfl rfl (fun _ => rfl) ?_ | refine WL.pick _ _ rfl (by decide) rfl rfl ?_)
      rcases Nat.lt_or_ge wk2 b.length with hl | hl
      · rw [if_pos hl] at d2
        refine WC.cond_t (by show some (Value.bool (decide _)) = _; rw [decide_eq_true (by omega)]) ?_
        repeat (first | refine WC.seq ?_ | refine WC.region ?_ | refine WC.ret ?_ | refine WL.nil ?_ | with_reducible refine QE.then_n ?_ | with_reducible refine QE.then_r ?_ | refine WC.cond_t rfl ?_ | refine WL.move _ rfl (by decide) rfl ?_ | refine WL.assign _ rfl (by decide) rfl ?_ | refine WL.bin _ _ _ rfl (by decide) rfl rfl (fun _ => rfl) ?_ | refine WL.ln22 rfl (by decide) rfl ?_)
        refine QE.nilrow 37 29 ?_
        exact QE.ret3 (.slice none 0 0) (.int .i64 ms.length) (.int .i64 361) [_] rfl rfl rfl rfl (.cons_cons _ (List.nil_sublist _)) ⟨none, 0, [], by rw [e1, d1, d2]; simp [es], by rw [e1, d2]; simp [es], rfl, (fun _ h => by cases h), Nat.zero_le _⟩
      · rw [if_neg (by omega)] at d2
        refine WC.cond_f (by show some (Value.bool (decide _)) = _; rw [decide_eq_false (by omega)]) ?_
        repeat (first | refine WC.seq ?_ | refine WC.region ?_ | refine WC.skip ?_ | refine WC.ret ?_ | refine WL.nil ?_ | with_reducible refine QE.then_n ?_ | refine WC.cond_f rfl ?_ | refine WL.move _ rfl (by decide) rfl ?_ | refine WL.assign _ rfl (by decide) rfl ?_ | refine WL.bin _ _ _ rfl (by decide) rfl rfl (fun _ => rfl) ?_ | refine WL.ln22 rfl (by decide) rfl ?_)
        exact QE.ret3 (.slice A2 ms.length c2) (.int .i64 ms.length) (.int .i64 0) (emsH A2 c2 ms) rfl rfl rfl rfl (.cons _ (.cons _ (.cons _ (.refl _)))) ⟨A2, c2, ms, by rw [e1, d1, d2]; simp [es], by rw [e1, d1, d2]; rfl, rfl, hel.sm, by omega⟩
    · rw [if_pos rfl] at d2
      repeat (first | refine WC.seq ?_ | refine WC.region ?_ | refine WC.skip ?_ | refine WC.ret ?_ | refine WL.nil ?_ | with_reducible refine QE.then_n ?_ | with_reducible refine QE.then_r ?_ | refine WC.cond_t rfl ?_ | refine WC.cond_f rfl ?_ | refine WL.move _ rfl (by decide) rfl ?_ | refine WL.assign _ rfl (by decide) rfl ?_ | refine WL.bin _ _ _ rfl (by decide) rfl rfl (fun _ => rfl) ?_ | refine WL.off rfl (by decide) ?_ | refine WL.pick _ _ rfl (by decide) rfl rfl ?_ | refine WL.ln22 rfl (by decide) rfl ?_)
      refine QE.nilrow 37 29 ?_
      exact QE.ret3 (.slice none 0 0) (.int .i64 ms.length) (.int .i64 7) [_] rfl rfl rfl rfl (.cons_cons _ (List.nil_sublist _)) ⟨none, 0, [], by rw [e1, d1, d2]; simp [es], by rw [e1, d2]; simp [es], rfl, (fun _ h => by cases h), Nat.zero_le _⟩
  · repeat (refine WC.block ?_)
    refine WC.loop (σ := List Em × Option Addr × Nat × Nat × Int × Bool) (fun x => [(7, .slice x.2.1 x.1.length x.2.2.1), (6, .int .i64 n), (5, .pointer (some ⟨cg, 0, none⟩))]) (fun x => .blk cg [pt rg, .slice none 0 0, .bool x.2.2.2.2.2] 96 :: .blk rg [.slice A1 b.length c1, .int .i64 x.2.2.2.1, .int .i64 x.2.2.2.2.1] 109 :: .row (.slice A1 b.length c1) 5 1 b.length (b8 b) :: .row (.slice x.2.1 x.1.length x.2.2.1) 37 29 x.1.length (emsC x.1) :: emsR x.1) (fun x => EL b (evG b) n x.1 x.2.2.2.1 x.2.2.2.2.1 x.2.2.2.2.2) (fun x => 2 * (n - x.1.length) + (if x.2.2.2.2.1 = 0 ∧ x.2.2.2.2.2 = false then 1 else 0)) ([], none, 0, wk, er, false) hEL (.cons rfl (.cons rfl (.cons rfl .nil))) (.refl _) ?_
    rintro ⟨ms, A2, c2, wk2, er2, bad⟩ hel
    dsimp only at hel ⊢
    have hmle := hel.le
    repeat (first | refine WC.seq ?_ | refine WC.region ?_ | refine WL.move _ rfl (by decide) rfl ?_ | refine WL.bin _ _ _ rfl (by decide) rfl rfl (fun _ => rfl) ?_ | refine WL.ln22 rfl (by decide) rfl ?_)
    refine WL.split 23 _ rfl (fun hlt => ?_) (fun hlt => ?_)
    · have hlt : (ms.length : Int) < n := of_decide_eq_true hlt
      skip
      refine WL.call [] [] [pt cg] _ _ (.row (.slice A2 ms.length c2) 37 29 ms.length (emsC ms) :: emsR ms) (stops_con (.r rg A1 c1 b wk2 er2 bad) cg) rfl (by decide) rfl Try.func58 rfl rfl rfl rfl (.refl _) (fun _ _ => trivial) ?_
      rintro v H1 ⟨rfl, rfl⟩
      simp only [carH, stopB, List.cons_append, List.nil_append]
      obtain ⟨S, hS⟩ : ∃ S : Bool, S = (bad || decide (er2 ≠ 0)) := ⟨_, rfl⟩
      rw [← hS]
      cases S
      · have hbf : bad = false := by cases bad; rfl; simp at hS
        subst hbf
        have he0 : er2 = 0 := by simpa using hS
        subst he0
        repeat (first | refine WC.seq ?_ | refine WC.region ?_ | refine WC.block ?_ | refine WC.skip ?_ | refine WL.nil ?_ | with_reducible refine QE.then_n ?_ | refine WC.cond_t rfl ?_ | refine WL.un _ _ rfl (by decide) rfl (fun _ => rfl) ?_ | refine WL.pick _ _ rfl (by decide) rfl rfl ?_)
        refine WL.alloc zeroA (evC zeroEv.n (.slice none 0 0) (.slice none 0 0)) rfl (by decide) zero37 rfl (fun g => ?_)
        repeat (first | refine WC.seq ?_ | refine WC.region ?_)
        refine WL.call [] [] [pt cg, pt g] _ _ (.row (.slice A2 ms.length c2) 37 29 ms.length (emsC ms) :: emsR ms) (event_r rg A1 c1 b wk2 cg g (zero_room hel.kw hn hb (.inl rfl))) rfl (by decide) rfl Try.func59 rfl rfl rfl rfl (permP (carH cg (.r rg A1 c1 b wk2 0 false)) _ _) (fun _ _ => trivial) ?_
        rintro v H1 ⟨rfl, wk3, er3, bd3, e, st, tt, X, rfl, hsl, hrm, hres⟩
        obtain ⟨hwk3, _, _, her3⟩ := hrm
        have hle : e.nums.length ≤ 255 ∧ e.mem.length ≤ 255 := ⟨hsl.1, hsl.2.1⟩
        refine WL.perm (((.row (.slice A2 ms.length c2) 37 29 ms.length (emsC ms) :: emsR ms) ++ carH cg (.r rg A1 c1 b wk3 er3 bd3)) ++ (.blk g (evC e.n st tt) 37 :: X)) (by rw [List.append_assoc]; exact List.perm_append_comm) ?_
        refine WL.slR hsl (fun A6 c6 A27 c27 h6 h27 => ?_)
        subst h6 h27
        obtain ⟨m, hm⟩ : ∃ m : Em, m = ⟨e, A6, c6, A27, c27⟩ := ⟨_, rfl⟩
        refine WL.perm (carH cg (.r rg A1 c1 b wk3 er3 bd3) ++ (.row (.slice A2 ms.length c2) 37 29 ms.length (emsC ms) :: .blk g (emC m) 37 :: (emsR ms ++ emR m))) (by subst hm; exact permQ _ _ _ _ _ _) ?_
        have hst := hel.step (m := m) (by omega) (by subst hm; exact hle) hwk3 her3 (by subst hm; exact hres)
        simp only [carH, List.cons_append, List.nil_append]
        repeat (first | refine WC.seq ?_ | refine WC.region ?_)
        refine WL.call [] [] [pt cg] _ _ (.row (.slice A2 ms.length c2) 37 29 ms.length (emsC ms) :: .blk g (emC m) 37 :: (emsR ms ++ emR m)) (stops_con (.r rg A1 c1 b wk3 er3 bd3) cg) rfl (by decide) rfl Try.func58 rfl rfl rfl rfl (.refl _) (fun _ _ => trivial) ?_
        rintro v H1 ⟨rfl, rfl⟩
        simp only [carH, stopB, List.cons_append, List.nil_append]
        rcases hst with ⟨rfl, rfl, hst⟩ | ⟨hbe, hst⟩
        · simp only [Bool.false_or, ne_eq, not_true, decide_false]
          repeat (first | refine WC.region ?_ | refine WL.nil ?_ | with_reducible refine QE.then_n ?_ | refine WC.cond_t rfl ?_ | refine WL.move _ rfl (by decide) rfl ?_ | refine WL.un _ _ rfl (by decide) rfl (fun _ => rfl) ?_)
          refine WL.ld37 4 rfl (by decide) rfl rfl rfl rfl ?_
          refine WL.buildS 1 37 29 [(0, .agg (emC m).toArray)] (emC m) rfl (by decide) rfl rfl rfl (fun w => by kernel_rfl) (fun gb => ?_)
          refine WL.append 4 37 29 248 ms.length 1 1 zeroA _ _ (emsC ms) (emC m) rfl (by decide) rfl rfl Try.underlying22 info37 rfl (by decide) rfl (fun w hI => row_reads hI (i := 0) rfl) (emC_one m) (by omega) (by omega) (fun A3 c3 => ?_)
          repeat (first | refine WL.nil ?_ | with_reducible refine QE.blk_n ?_ | refine WL.assign _ rfl (by decide) rfl ?_)
          refine QE.round (ms ++ [m], A3, c3, wk3, 0, false) hst (by simp; omega) (.eq rfl (by simp) (.cons rfl (.cons rfl .nil))) ?_
          dsimp only
          rw [List.length_append, show emsC (ms ++ [m]) = emsC ms ++ emC m by simp [emsC], show emsR (ms ++ [m]) = emsR ms ++ emR m by simp [emsR]]
          exact .cons _ (.cons_cons _ (.cons_cons _ (.cons_cons _ (.cons_cons _ (.cons _ (.refl _))))))
        · have hS2 : (bd3 || decide (er3 ≠ 0)) = true := by rcases hbe with rfl | rfl <;> simp
          rw [hS2]
          repeat (first | refine WC.skip ?_ | refine WL.nil ?_ | with_reducible refine QE.then_n ?_ | with_reducible refine QE.blk_n ?_ | refine WC.cond_f rfl ?_ | refine WL.un _ _ rfl (by decide) rfl (fun _ => rfl) ?_)
          refine QE.round (ms, A2, c2, wk3, er3, bd3) hst (by dsimp only; rw [if_neg (by rintro ⟨rfl, rfl⟩; simp at hS2)]; simp) (.cons rfl (.cons rfl (.cons rfl .nil))) ?_
          exact .cons_cons _ (.cons_cons _ (.cons_cons _ (.cons_cons _ (.cons _ (List.sublist_append_left _ _)))))
      · repeat (first | refine WC.exit ?_ | refine WL.nil ?_ | with_reducible refine QE.then_n ?_ | with_reducible refine QE.then_e ?_ | with_reducible refine QE.blk_hit ?_ | refine WC.cond_f rfl ?_ | refine WL.un _ _ rfl (by decide) rfl (fun _ => rfl) ?_ | refine WL.pick _ _ rfl (by decide) rfl rfl ?_)
        refine QE.cut (ms, A2, c2, wk2, er2, bad) ⟨hel, ?_⟩ (.cons rfl (.cons rfl .nil)) (.refl _)
        cases hb2 : bad with
        | true => exact .inr (.inl rfl)
        | false =>
          rw [hb2] at hS
          rcases hel.ke with h | h
          · rw [h] at hS; simp at hS
          · exact .inr (.inr h)
    · have hlt : ¬ (ms.length : Int) < n := of_decide_eq_false hlt
      repeat (first | refine WC.exit ?_ | refine WL.nil ?_ | with_reducible refine QE.then_n ?_ | with_reducible refine QE.then_e ?_ | with_reducible refine QE.blk_hit ?_ | refine WC.cond_f rfl ?_ | refine WL.off rfl (by decide) ?_ | refine WL.pick _ _ rfl (by decide) rfl rfl ?_)
      exact QE.cut (ms, A2, c2, wk2, er2, bad) ⟨hel, .inl (by dsimp only; omega)⟩ (.cons rfl (.cons rfl .nil)) (.refl _)
end Go.Proofs.Ytalafklnnohlgaa.Cod
