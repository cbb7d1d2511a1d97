/- code's carrier: an event, to bytes and out of them. Conditions: the bytes so far leave room; a list that is read lies apart from what is written. -/
import Derived.Test.YtalafklnnohlgaaCod8
namespace Go.Proofs.Ytalafklnnohlgaa.Cod
open Go.RowKit X Go.Proofs.YtalafklnnohlgaaW.PrintLast
open Oct hiding agg39 size39
set_option linter.unusedVariables false
set_option linter.unusedSimpArgs false

/-- The fields of a call. -/
def callF (k : Int) : Option (List Fd) :=
  if k = 1 then some [.n 9 1 .i64, .n 10 2 .i64, .n 11 2 .i64, .n 12 1 .i64] else
  if k = 2 then some [.n 9 1 .i64] else
  if k = 3 then some [.n 9 1 .i64, .n 13 4 .u32, .n 14 4 .u32] else
  if k = 10 then some [.n 2 1 .i64, .l 6, .n 7 8 .i64] else
  if k = 13 then some [.n 3 1 .i64, .n 4 1 .i64] else
  if k = 16 then some [.n 3 1 .i64, .f 5] else
  if k = 18 then some [.n 3 1 .i64, .n 2 1 .i64] else
  if k = 19 then some [.n 2 1 .i64, .n 3 1 .i64, .n 8 8 .i64, .n 7 8 .i64] else
  if k = 4 then some [.n 2 1 .i64] else
  if k = 5 then some [.n 2 1 .i64] else
  if k = 6 then some [.n 2 1 .i64] else
  if k = 7 then some [.n 2 1 .i64] else
  if k = 8 then some [.n 2 1 .i64] else
  if k = 9 then some [.n 2 1 .i64] else
  if k = 11 then some [.n 2 1 .i64] else
  if k = 12 then some [.n 2 1 .i64] else
  if k = 20 then some [.n 2 1 .i64] else
  if k = 14 then some [.n 3 1 .i64] else
  if k = 15 then some [.n 3 1 .i64] else
  if k = 17 then some [.n 3 1 .i64] else
  none
def tabV : List (Int × Value) := tab.map (fun p => (p.1, fnV p.2))
theorem carry (k : Int) (h10 : k ≠ 10) :
    (∃ (f : FuncId) (fn : Func) (fs : List Fd), lkp .nilFunc k tabV = fnV f ∧ callF k = some fs ∧ Try.prog.funcs[f]? = some fn ∧ (fn.name == "runtime.NumGoroutine") = false ∧ fn.body.isSome = true ∧ szF fs ≤ 64 ∧
      ∀ (s : Cs) (e : Ev) (st tt : Value) (cg g : Nat), Cod.room 64 s → Con Try.prog f #[pt cg, .pointer (some ⟨g, 1, none⟩)] (carH cg s ++ [.blk g (evC e.n st tt) 37]) (fun _ => True) (EvP fs cg g st tt s e)) ∨
    (lkp .nilFunc k tabV = .nilFunc ∧ callF k = none) := by
  by_cases h1 : k = 1
  · subst h1; exact .inl ⟨90, _, _, rfl, rfl, Try.func90, rfl, rfl, by decide, fun s e st tt cg g hr => create_con s e st tt cg g (room_le hr (by decide))⟩
  by_cases h2 : k = 2
  · subst h2; exact .inl ⟨91, _, _, rfl, rfl, Try.func91, rfl, rfl, by decide, fun s e st tt cg g hr => destroy_con s e st tt cg g (room_le hr (by decide))⟩
  by_cases h3 : k = 3
  · subst h3; exact .inl ⟨92, _, _, rfl, rfl, Try.func92, rfl, rfl, by decide, fun s e st tt cg g hr => add_con s e st tt cg g (room_le hr (by decide))⟩
  by_cases h13 : k = 13
  · subst h13; exact .inl ⟨94, _, _, rfl, rfl, Try.func94, rfl, rfl, by decide, fun s e st tt cg g hr => link_con s e st tt cg g (room_le hr (by decide))⟩
  by_cases h16 : k = 16
  · subst h16; exact .inl ⟨95, _, _, rfl, rfl, Try.func95, rfl, rfl, by decide, fun s e st tt cg g hr => masks_con s e st tt cg g (room_le hr (by decide))⟩
  by_cases h18 : k = 18
  · subst h18; exact .inl ⟨96, _, _, rfl, rfl, Try.func96, rfl, rfl, by decide, fun s e st tt cg g hr => bind_con s e st tt cg g (room_le hr (by decide))⟩
  by_cases h19 : k = 19
  · subst h19; exact .inl ⟨97, _, _, rfl, rfl, Try.func97, rfl, rfl, by decide, fun s e st tt cg g hr => start_con s e st tt cg g (room_le hr (by decide))⟩
  by_cases h4 : k = 4
  · subst h4; exact .inl ⟨98, _, _, rfl, rfl, Try.func98, rfl, rfl, by decide, fun s e st tt cg g hr => vcpu_con s e st tt cg g (room_le hr (by decide))⟩
  by_cases h5 : k = 5
  · subst h5; exact .inl ⟨98, _, _, rfl, rfl, Try.func98, rfl, rfl, by decide, fun s e st tt cg g hr => vcpu_con s e st tt cg g (room_le hr (by decide))⟩
  by_cases h6 : k = 6
  · subst h6; exact .inl ⟨98, _, _, rfl, rfl, Try.func98, rfl, rfl, by decide, fun s e st tt cg g hr => vcpu_con s e st tt cg g (room_le hr (by decide))⟩
  by_cases h7 : k = 7
  · subst h7; exact .inl ⟨98, _, _, rfl, rfl, Try.func98, rfl, rfl, by decide, fun s e st tt cg g hr => vcpu_con s e st tt cg g (room_le hr (by decide))⟩
  by_cases h8 : k = 8
  · subst h8; exact .inl ⟨98, _, _, rfl, rfl, Try.func98, rfl, rfl, by decide, fun s e st tt cg g hr => vcpu_con s e st tt cg g (room_le hr (by decide))⟩
  by_cases h9 : k = 9
  · subst h9; exact .inl ⟨98, _, _, rfl, rfl, Try.func98, rfl, rfl, by decide, fun s e st tt cg g hr => vcpu_con s e st tt cg g (room_le hr (by decide))⟩
  by_cases h11 : k = 11
  · subst h11; exact .inl ⟨98, _, _, rfl, rfl, Try.func98, rfl, rfl, by decide, fun s e st tt cg g hr => vcpu_con s e st tt cg g (room_le hr (by decide))⟩
  by_cases h12 : k = 12
  · subst h12; exact .inl ⟨98, _, _, rfl, rfl, Try.func98, rfl, rfl, by decide, fun s e st tt cg g hr => vcpu_con s e st tt cg g (room_le hr (by decide))⟩
  by_cases h20 : k = 20
  · subst h20; exact .inl ⟨98, _, _, rfl, rfl, Try.func98, rfl, rfl, by decide, fun s e st tt cg g hr => vcpu_con s e st tt cg g (room_le hr (by decide))⟩
  by_cases h14 : k = 14
  · subst h14; exact .inl ⟨99, _, _, rfl, rfl, Try.func99, rfl, rfl, by decide, fun s e st tt cg g hr => port_con s e st tt cg g (room_le hr (by decide))⟩
  by_cases h15 : k = 15
  · subst h15; exact .inl ⟨99, _, _, rfl, rfl, Try.func99, rfl, rfl, by decide, fun s e st tt cg g hr => port_con s e st tt cg g (room_le hr (by decide))⟩
  by_cases h17 : k = 17
  · subst h17; exact .inl ⟨99, _, _, rfl, rfl, Try.func99, rfl, rfl, by decide, fun s e st tt cg g hr => port_con s e st tt cg g (room_le hr (by decide))⟩
  refine .inr ⟨?_, ?_⟩
  · simp only [tabV, tab, List.map_cons, List.map_nil, lkp, h1, h2, h3, h13, h16, h18, h19, h4, h5, h6, h7, h8, h9, h11, h12, h20, h14, h15, h17, h10, if_false]
  · simp only [callF, h1, h2, h3, h13, h16, h18, h19, h4, h5, h6, h7, h8, h9, h11, h12, h20, h14, h15, h17, h10, if_false]
theorem lkp10 : lkp .nilFunc 10 tabV = fnV 93 ∧ callF 10 = some [.n 2 1 .i64, .l 6, .n 7 8 .i64] := ⟨rfl, rfl⟩

/-- The fields of an event; none: it is of no kind. -/
def evF (e : Ev) : Option (List Fd) :=
  if e.n 0 = 1 then (callF (e.n 1)).map (fun fs => .n 0 1 .i64 :: .n 1 1 .i64 :: fs) else
  if e.n 0 = 2 then (liveF (e.n 15)).map (fun fs => .n 0 1 .i64 :: .n 15 1 .i64 :: fs) else
  if e.n 0 = 3 then some [.n 0 1 .i64, .n 28 8 .i64] else none
def okE (e : Ev) : Bool := match evF e with | some fs => okF fs e | none => false
def wrE (e : Ev) : List Int := match evF e with | some fs => wrF fs e | none => []
def zeroEv : Ev := ⟨fun _ => 0, [], []⟩
def subE (X1 : Res) (j : Nat) (F : Int → Option (List Fd)) : Res :=
  match rdD X1 (.n j 1 .i64) with
  | .good r2 e2 => (match F (e2.n j) with | some fs => rdF fs (.good r2 e2) | none => .code)
  | .short => .short
  | .code => .code
def rdE (rest : List Int) : Res :=
  match rdD (.good rest zeroEv) (.n 0 1 .i64) with
  | .good r1 e1 => if e1.n 0 = 1 then subE (.good r1 e1) 1 callF else if e1.n 0 = 2 then subE (.good r1 e1) 15 liveF else if e1.n 0 = 3 then rdD (.good r1 e1) (.n 28 8 .i64) else .code
  | .short => .short
  | .code => .code
def fin (ok : Bool) (X : Res) : Res := if ok then X else match X with | .good _ _ => .code | .short => .short | .code => .code
theorem rdF_short : ∀ fs : List Fd, rdF fs .short = .short
  | [] => rfl
  | f :: fs => rdF_short fs
theorem rdF_code : ∀ fs : List Fd, rdF fs .code = .code
  | [] => rfl
  | f :: fs => rdF_code fs
theorem resOf_good {bad : Bool} {er : Int} {l r : List Int} {wk : Nat} {e e' : Ev} (h : resOf bad er l wk e = .good r e') : e' = e := by
  unfold resOf at h
  split at h
  · cases h
  · split at h
    · cases h
    · cases h; rfl
theorem rdE_sub {rest : List Int} {X1 X2 X3 : Res} {ok : Bool} {fs : List Fd} (h1 : X1 = rdD (.good rest zeroEv) (.n 0 1 .i64)) (k1 : ∀ r e, X1 = .good r e → e.n 0 = 1) (h2 : X2 = rdD X1 (.n 1 1 .i64))
    (k2 : ∀ r e, X2 = .good r e → (ok = true ∧ callF (e.n 1) = some fs) ∨ (ok = false ∧ callF (e.n 1) = none ∧ fs = [])) (h3 : X3 = rdF fs X2) : rdE rest = fin ok X3 := by
  unfold rdE
  rw [← h1]
  cases X1 with
  | short => rw [h3, h2]; simp only [rdD, rdF_short]; cases ok <;> rfl
  | code => rw [h3, h2]; simp only [rdD, rdF_code]; cases ok <;> rfl
  | good r1 e1 =>
    simp only [k1 _ _ rfl, if_true, subE]
    rw [← h2]
    cases X2 with
    | short => rw [h3, rdF_short]; cases ok <;> rfl
    | code => rw [h3, rdF_code]; cases ok <;> rfl
    | good r2 e2 =>
      rcases k2 _ _ rfl with ⟨rfl, hc⟩ | ⟨rfl, hc, rfl⟩
      · simp only [hc, h3]; rfl
      · simp only [hc, h3]; rfl
theorem rdE_live {rest : List Int} {X1 X2 X3 : Res} {ok : Bool} {fs : List Fd} (h1 : X1 = rdD (.good rest zeroEv) (.n 0 1 .i64)) (k1 : ∀ r e, X1 = .good r e → e.n 0 = 2) (h2 : X2 = rdD X1 (.n 15 1 .i64))
    (k2 : ∀ r e, X2 = .good r e → (ok = true ∧ liveF (e.n 15) = some fs) ∨ (ok = false ∧ liveF (e.n 15) = none ∧ fs = [])) (h3 : X3 = rdF fs X2) : rdE rest = fin ok X3 := by
  unfold rdE
  rw [← h1]
  cases X1 with
  | short => rw [h3, h2]; simp only [rdD, rdF_short]; cases ok <;> rfl
  | code => rw [h3, h2]; simp only [rdD, rdF_code]; cases ok <;> rfl
  | good r1 e1 =>
    simp only [k1 _ _ rfl, show ¬ ((2 : Int) = 1) by decide, if_true, if_false, subE]
    rw [← h2]
    cases X2 with
    | short => rw [h3, rdF_short]; cases ok <;> rfl
    | code => rw [h3, rdF_code]; cases ok <;> rfl
    | good r2 e2 =>
      rcases k2 _ _ rfl with ⟨rfl, hc⟩ | ⟨rfl, hc, rfl⟩
      · simp only [hc, h3]; rfl
      · simp only [hc, h3]; rfl
theorem rdE_step {rest : List Int} {X1 X2 : Res} (h1 : X1 = rdD (.good rest zeroEv) (.n 0 1 .i64)) (k1 : ∀ r e, X1 = .good r e → e.n 0 = 3) (h2 : X2 = rdD X1 (.n 28 8 .i64)) : rdE rest = fin true X2 := by
  unfold rdE
  rw [← h1]
  cases X1 with
  | short => rw [h2]; rfl
  | code => rw [h2]; rfl
  | good r1 e1 => simp only [k1 _ _ rfl, show ¬ ((3 : Int) = 1) by decide, show ¬ ((3 : Int) = 2) by decide, if_true, if_false, h2]; rfl
theorem rdE_none {rest : List Int} {X1 : Res} (h1 : X1 = rdD (.good rest zeroEv) (.n 0 1 .i64)) (k1 : ∀ r e, X1 = .good r e → e.n 0 ≠ 1 ∧ e.n 0 ≠ 2 ∧ e.n 0 ≠ 3) : rdE rest = fin false X1 := by
  unfold rdE
  rw [← h1]
  cases X1 with
  | short => rfl
  | code => rfl
  | good r1 e1 => obtain ⟨a, b, c⟩ := k1 _ _ rfl; simp only [a, b, c, if_false]; rfl
theorem fin_res {bad ok : Bool} {er : Int} {l : List Int} {wk : Nat} {e : Ev} : resOf (bad || (!ok && decide (er = 0))) er l wk e = fin ok (resOf bad er l wk e) := by
  cases bad with
  | true => cases ok <;> rfl
  | false =>
    cases ok with
    | true => rfl
    | false =>
      by_cases h : er = 0
      · subst h; rfl
      · simp [resOf, h, fin]
theorem liveF_sz {k : Int} {fs : List Fd} (h : liveF k = some fs) : szF fs ≤ 300 := by
  unfold liveF at h
  repeat' split at h
  all_goals first | (cases h; decide) | cases h
set_option maxHeartbeats 8000000 in
set_option maxRecDepth 100000 in
theorem event_w (A : Option Addr) (c : Nat) (out : List Int) (e : Ev) (cg g : Nat) (B6 B27 : Option Addr) (k6 k27 : Nat) (hL6 : e.nums.length ≤ maxLen) (hL27 : e.mem.length ≤ maxLen) (hr : Cod.room 400 (.w A c out false)) :
    Con Try.prog 59 #[pt cg, pt g] (carH cg (.w A c out false) ++ [.blk g (evC e.n (.slice B6 e.nums.length k6) (.slice B27 e.mem.length k27)) 37]) (fun w => RdO w (carH cg (.w A c out false) ++ [.blk g (evC e.n (.slice B6 e.nums.length k6) (.slice B27 e.mem.length k27)) 37]) B6 e.nums ∧ RdO w (carH cg (.w A c out false) ++ [.blk g (evC e.n (.slice B6 e.nums.length k6) (.slice B27 e.mem.length k27)) 37]) B27 e.mem)
      (fun r H' => r = .tuple #[] ∧ ∃ A' c' o b, H' = carH cg (.w A' c' o b) ++ [.blk g (evC e.n (.slice B6 e.nums.length k6) (.slice B27 e.mem.length k27)) 37] ∧ o.length ≤ out.length + 400 ∧ (b = true ↔ okE e = false) ∧ (b = false → o = out ++ wrE e)) := by
  refine Con.intro Try.func59 rfl Try.ntmps59 rfl (fun w hR => ?_)
  unfold pt
  repeat (first | refine WC.seq ?_ | refine WC.region ?_ | refine WL.move _ rfl (by decide) rfl ?_ | refine WL.nilc _ rfl (by decide) rfl ?_ | refine WL.fd37_0 rfl (by decide) rfl ?_)
  refine WL.buildS 1 126 1 [(0, .pointer (some ⟨g, 0, none⟩))] (ptrs g [0]) rfl (by decide) rfl rfl rfl (fun w => by kernel_rfl) (fun gb => ?_)
  skip
  refine WL.call [] [] [pt cg, .slice (some ⟨gb, 0, none⟩) 1 1] _ _ [] (smallE (.w A c out false) e (.slice B6 e.nums.length k6) (.slice B27 e.mem.length k27) cg g gb [0] (by decide) (okj_1 (fun _ _ _ => ⟨rfl, fun _ => rfl⟩)) (room_le hr (by decide))) rfl (by decide) rfl Try.func80 rfl rfl rfl rfl (permC _) (fun _ _ => trivial) ?_
  rintro r H1 hh
  obtain ⟨rfl, s1, t1, rfl⟩ := evP_w hh
  rw [List.append_nil]
  have hr1 : Cod.room 392 s1 := t1.room hr
  obtain ⟨_, A1, c1, o1, b1, rfl⟩ := t1.w
  refine WL.perm _ ((carH cg (.w A1 c1 o1 b1)).perm_append_comm (l₂ := [_])).symm ?_
  repeat (first | refine WL.nil ?_ | with_reducible refine QE.then_n ?_)
  refine WC.seq ?_
  repeat (first | refine WC.region ?_ | refine WL.nil ?_ | with_reducible refine QE.then_n ?_ | refine WL.assign _ rfl (by decide) rfl ?_)
  refine WC.cut (σ := Bool × Cs) (fun x => [(0, .pointer (some ⟨cg, 0, none⟩)), (1, .pointer (some ⟨g, 0, none⟩)), (4, .bool x.1)]) (fun x => carH cg x.2 ++ [.blk g (evC e.n (.slice B6 e.nums.length k6) (.slice B27 e.mem.length k27)) 37]) (fun x => ∃ FS, T FS (.w A c out false) e x.2 e ∧ szF FS ≤ 400 ∧ ((x.1 = true ∧ evF e = some FS) ∨ (x.1 = false ∧ evF e = none))) ?_ ?_
  · rintro ⟨ok, sF⟩ ⟨FS, tF, hFS, hp⟩
    dsimp only at tF hp ⊢
    obtain ⟨_, AF, cF, oF, bF, rfl, hlen, hbF, hoF⟩ := tF
    have hex : okE e = false ↔ (okF FS e = false ∨ ok = false) := by
      rcases hp with ⟨rfl, hp⟩ | ⟨rfl, hp⟩ <;> simp [okE, hp]
    simp only [carH, List.cons_append, List.nil_append]
    cases bF
    · cases ok
      · repeat (first | refine WC.region ?_ | refine WL.nil ?_ | refine WL.move _ rfl (by decide) rfl ?_ | refine WL.bin _ _ _ rfl (by decide) rfl rfl (fun _ => rfl) ?_ | refine WL.un _ _ rfl (by decide) rfl (fun _ => rfl) ?_ | refine WL.nilc _ rfl (by decide) rfl ?_ | refine WL.off rfl (by decide) ?_ | refine WL.pick _ _ rfl (by decide) rfl rfl ?_ | refine WL.fd96_0 rfl (by decide) rfl ?_ | refine WL.fd96_2 rfl (by decide) rfl ?_ | refine WL.ld4 0 rfl (by decide) rfl rfl rfl ?_ | refine WL.ld68 0 rfl (by decide) rfl rfl rfl ?_ | refine WL.st4 0 rfl rfl rfl rfl rfl rfl rfl rfl rfl ?_)
        exact QE.end0 (carH cg (.w AF cF oF true) ++ [.blk g (evC e.n (.slice B6 e.nums.length k6) (.slice B27 e.mem.length k27)) 37]) rfl (.refl _) ⟨rfl, AF, cF, oF, true, rfl, by omega, ⟨fun _ => hex.2 (.inr rfl), fun _ => rfl⟩, fun h => by cases h⟩
      · repeat (first | refine WC.region ?_ | refine WL.nil ?_ | refine WL.move _ rfl (by decide) rfl ?_ | refine WL.un _ _ rfl (by decide) rfl (fun _ => rfl) ?_ | refine WL.nilc _ rfl (by decide) rfl ?_ | refine WL.off rfl (by decide) ?_ | refine WL.pick _ _ rfl (by decide) rfl rfl ?_ | refine WL.offu rfl (by decide) ?_ | refine WL.fd96_2 rfl (by decide) rfl ?_ | refine WL.ld4 0 rfl (by decide) rfl rfl rfl ?_ | refine WL.st4 0 rfl rfl rfl rfl rfl rfl rfl rfl rfl ?_)
        refine QE.end0 (carH cg (.w AF cF oF false) ++ [.blk g (evC e.n (.slice B6 e.nums.length k6) (.slice B27 e.mem.length k27)) 37]) rfl (.refl _) ⟨rfl, AF, cF, oF, false, rfl, by omega, ⟨(fun h => by cases h), fun h => ?_⟩, fun _ => ?_⟩
        · rcases hex.1 h with h | h
          · exact hbF.2 (.inr h)
          · cases h
        · rcases hp with ⟨_, hp⟩ | ⟨h, _⟩
          · rw [hoF rfl]; simp [wrE, hp]
          · cases h
    · have hbad : okF FS e = false := by rcases hbF.1 rfl with h | h; cases h; exact h
      repeat (first | refine WC.region ?_ | refine WL.nil ?_ | refine WL.move _ rfl (by decide) rfl ?_ | refine WL.nilc _ rfl (by decide) rfl ?_ | refine WL.off rfl (by decide) ?_ | refine WL.pick _ _ rfl (by decide) rfl rfl ?_ | refine WL.offu rfl (by decide) ?_ | refine WL.fd96_2 rfl (by decide) rfl ?_ | refine WL.ld4 0 rfl (by decide) rfl rfl rfl ?_ | refine WL.st4 0 rfl rfl rfl rfl rfl rfl rfl rfl rfl ?_)
      exact QE.end0 (carH cg (.w AF cF oF true) ++ [.blk g (evC e.n (.slice B6 e.nums.length k6) (.slice B27 e.mem.length k27)) 37]) rfl (.refl _) ⟨rfl, AF, cF, oF, true, rfl, by omega, ⟨fun _ => hex.2 (.inl hbad), fun _ => rfl⟩, fun h => by cases h⟩
  · repeat (first | refine WC.seq ?_ | refine WC.region ?_ | refine WC.block ?_ | refine WL.nil ?_ | with_reducible refine QE.then_n ?_ | refine WL.move _ rfl (by decide) rfl ?_ | refine WL.assign _ rfl (by decide) rfl ?_ | refine WL.bin _ _ _ rfl (by decide) rfl rfl (fun _ => rfl) ?_ | refine WL.nilc _ rfl (by decide) rfl ?_ | refine WL.fd37_0 rfl (by decide) rfl ?_ | refine WL.ld3 0 rfl (by decide) rfl rfl rfl ?_)
    refine WC.cond _ rfl (fun h1 => ?_) (fun h1 => ?_)
    · have h1 : e.n 0 = 1 := by simpa using h1
      refine WC.perm _ ((carH cg (.w A1 c1 o1 b1)).perm_append_comm (l₂ := [_])) ?_
      repeat (first | refine WC.seq ?_ | refine WC.region ?_ | refine WL.move _ rfl (by decide) rfl ?_ | refine WL.nilc _ rfl (by decide) rfl ?_ | refine WL.fd33_0 rfl (by decide) rfl ?_ | refine WL.fd37_1 rfl (by decide) rfl ?_)
      refine WL.buildS 1 126 1 [(0, .pointer (some ⟨g, 1, none⟩))] (ptrs g [1]) rfl (by decide) rfl rfl rfl (fun w => by kernel_rfl) (fun gb2 => ?_)
      skip
      refine WL.call [] [] [pt cg, .slice (some ⟨gb2, 0, none⟩) 1 1] _ _ [] (smallE (.w A1 c1 o1 b1) e (.slice B6 e.nums.length k6) (.slice B27 e.mem.length k27) cg g gb2 [1] (by decide) (okj_1 (fun _ _ _ => ⟨rfl, fun _ => rfl⟩)) (room_le hr1 (by decide))) rfl (by decide) rfl Try.func80 rfl rfl rfl rfl (permC _) (fun _ _ => trivial) ?_
      rintro r H1 hh
      obtain ⟨rfl, s2, t2, rfl⟩ := evP_w hh
      rw [List.append_nil]
      have hr2 : Cod.room 384 s2 := t2.room hr1
      obtain ⟨_, A2, c2, o2, b2, rfl⟩ := t2.w
      refine WL.perm _ ((carH cg (.w A2 c2 o2 b2)).perm_append_comm (l₂ := [_])).symm ?_
      repeat (refine WC.seq ?_)
      refine WC.draw 8 #[false, false, false, false, false, false, false, false] [.blk g (evC e.n (.slice B6 e.nums.length k6) (.slice B27 e.mem.length k27)) 37] [] (by kernel_rfl) rfl rfl (by repeat (first | exact List.Sublist.refl _ | exact List.nil_sublist _ | refine List.Sublist.cons_cons _ ?_ | refine List.Sublist.cons _ ?_)) ?_
      refine WA.move 1 #[false, true, false, false, false, false, false, false] _ rfl rfl rfl (by decide) (by kernel_rfl) (by repeat (first | with_reducible refine Qp.then ?_ | with_reducible refine Qp.blk ?_ | with_reducible exact Qp.body)) ?_
      refine WA.nilc 2 #[false, true, true, false, false, false, false, false] _ rfl rfl rfl (by decide) (by kernel_rfl) (by repeat (first | with_reducible refine Qp.then ?_ | with_reducible refine Qp.blk ?_ | with_reducible exact Qp.body)) ?_
      refine WA.faddr 3 #[false, true, true, true, false, false, false, false] _ _ rfl (fa37_1 _ _) rfl rfl (by decide) (by kernel_rfl) (by repeat (first | with_reducible refine Qp.then ?_ | with_reducible refine Qp.blk ?_ | with_reducible exact Qp.body)) ?_
      refine WA.faddr 4 #[false, true, true, true, true, false, false, false] _ _ rfl (fa33_0 _ _) rfl rfl (by decide) (by kernel_rfl) (by repeat (first | with_reducible refine Qp.then ?_ | with_reducible refine Qp.blk ?_ | with_reducible exact Qp.body)) ?_
      refine WA.load 5 #[false, true, true, true, true, true, false, false] 0 _ _ _ _ _ rfl rfl (by decide) (by repeat (first | exact List.Sublist.refl _ | exact List.nil_sublist _ | refine List.Sublist.cons_cons _ ?_ | refine List.Sublist.cons _ ?_)) (by kernel_rfl) (by repeat (first | with_reducible refine Qp.then ?_ | with_reducible refine Qp.blk ?_ | with_reducible exact Qp.body)) rfl agg3 rfl rfl ?_
      refine WA.call 0 #[true, true, true, true, true, true, false, false] [] [] [] _ [] _ calls_con rfl rfl (by decide) (by kernel_rfl) rfl rfl Try.func81 rfl rfl rfl rfl (.refl _) (fun _ _ => trivial) ?_
      rintro r H1 ⟨mr, rfl, rfl⟩
      refine ⟨(by repeat (first | exact List.Sublist.refl _ | exact List.nil_sublist _ | refine List.Sublist.cons_cons _ ?_ | refine List.Sublist.cons _ ?_)), ?_⟩
      refine WA.lookup (zero := .nilFunc) 6 #[true, true, true, true, true, true, true, false] 0 tabV rfl rfl (by decide) (by kernel_rfl) rfl (by repeat (first | exact List.Sublist.refl _ | exact List.nil_sublist _ | refine List.Sublist.cons_cons _ ?_ | refine List.Sublist.cons _ ?_)) rfl rfl rfl und128 Try.underlying3 (fun w => by kernel_rfl) rfl ?_
      refine WA.assign 7 #[true, true, true, true, true, true, true, true] _ rfl rfl rfl (by decide) (by kernel_rfl) (by repeat (first | with_reducible refine Qp.then ?_ | with_reducible refine Qp.blk ?_ | with_reducible exact Qp.body)) ?_
      refine WA.done (by kernel_rfl) ?_
      repeat (with_reducible refine QE.then_n ?_)
      refine WC.sub _ (.cons _ (.refl _)) ?_
      refine WC.perm _ ((carH cg (.w A2 c2 o2 b2)).perm_append_comm (l₂ := [_])) ?_
      by_cases h10 : e.n 1 = 10
      · rw [h10, lkp10.1]
        unfold fnV
        repeat (first | refine WC.seq ?_ | refine WC.region ?_ | refine WL.nil ?_ | with_reducible refine QE.then_n ?_ | refine WC.cond_t rfl ?_ | refine WL.move _ rfl (by decide) rfl ?_ | refine WL.bin _ _ _ rfl (by decide) rfl rfl (fun _ => rfl) ?_ | refine WL.nilc _ rfl (by decide) rfl ?_ | refine WL.fd37_1 rfl (by decide) rfl ?_)
        refine WL.call [] [] [pt cg, .pointer (some ⟨g, 1, none⟩)] _ _ [] (poll_w A2 c2 o2 b2 e (.slice B27 e.mem.length k27) cg g B6 k6 hL6 (room_le hr2 (by decide))) rfl (by decide) rfl Try.func93 rfl rfl rfl rfl (by rw [List.append_nil]) (fun w' hI => hR.1.now rfl hI) ?_
        rintro r H1 ⟨rfl, s3, t3, rfl⟩
        rw [List.append_nil]
        repeat (first | refine WL.nil ?_ | with_reducible refine QE.blk_n ?_)
        exact QE.cut (true, s3) ⟨_, (t1.comp t2).comp t3, by decide, .inl ⟨rfl, by unfold evF; rw [if_pos h1, h10, lkp10.2]; rfl⟩⟩ (.cons rfl (.cons rfl (.cons rfl .nil))) (.refl _)
      · rcases carry (e.n 1) h10 with ⟨f, fn, fs, hv, hF, hfn, hnm, hbd, hsz, hc⟩ | ⟨hv, hF⟩
        · rw [hv]
          unfold fnV
          repeat (first | refine WC.seq ?_ | refine WC.region ?_ | refine WL.nil ?_ | with_reducible refine QE.then_n ?_ | refine WC.cond_t rfl ?_ | refine WL.move _ rfl (by decide) rfl ?_ | refine WL.bin _ _ _ rfl (by decide) rfl rfl (fun _ => rfl) ?_ | refine WL.nilc _ rfl (by decide) rfl ?_ | refine WL.fd37_1 rfl (by decide) rfl ?_)
          refine WL.call [] [] [pt cg, .pointer (some ⟨g, 1, none⟩)] _ _ [] (hc (.w A2 c2 o2 b2) e (.slice B6 e.nums.length k6) (.slice B27 e.mem.length k27) cg g (room_le hr2 (by decide))) rfl (by decide) rfl hfn hnm hbd rfl rfl (by rw [List.append_nil]) (fun _ _ => trivial) ?_
          rintro r H1 hh
          obtain ⟨rfl, s3, t3, rfl⟩ := evP_w hh
          rw [List.append_nil]
          repeat (first | refine WL.nil ?_ | with_reducible refine QE.blk_n ?_)
          refine QE.cut (true, s3) ⟨_, (t1.comp t2).comp t3, ?_, .inl ⟨rfl, by unfold evF; rw [if_pos h1, hF]; rfl⟩⟩ (.cons rfl (.cons rfl (.cons rfl .nil))) (.refl _)
          simp only [szF, List.map_append, List.sum_append] at hsz ⊢
          simp [szD]; omega
        · rw [hv]
          repeat (first | refine WC.seq ?_ | refine WC.region ?_ | refine WL.nil ?_ | with_reducible refine QE.then_n ?_ | with_reducible refine QE.blk_n ?_ | refine WC.cond_f rfl ?_ | refine WL.move _ rfl (by decide) rfl ?_ | refine WL.assign _ rfl (by decide) rfl ?_ | refine WL.bin _ _ _ rfl (by decide) rfl rfl (fun _ => rfl) ?_)
          exact QE.cut (false, (.w A2 c2 o2 b2)) ⟨_, t1.comp t2, by decide, .inr ⟨rfl, by unfold evF; rw [if_pos h1, hF]; rfl⟩⟩ (.cons rfl (.cons rfl (.cons rfl .nil))) (.refl _)
    have h1 : ¬ e.n 0 = 1 := by simpa using h1
    repeat (first | refine WC.seq ?_ | refine WC.region ?_ | refine WL.nil ?_ | with_reducible refine QE.then_n ?_ | refine WL.assign _ rfl (by decide) rfl ?_ | refine WL.bin _ _ _ rfl (by decide) rfl rfl (fun _ => rfl) ?_)
    refine WC.cond _ rfl (fun h2 => ?_) (fun h2 => ?_)
    · have h2 : e.n 0 = 2 := by simpa using h2
      refine WC.perm _ ((carH cg (.w A1 c1 o1 b1)).perm_append_comm (l₂ := [_])) ?_
      repeat (first | refine WC.seq ?_ | refine WC.region ?_ | refine WL.move _ rfl (by decide) rfl ?_ | refine WL.nilc _ rfl (by decide) rfl ?_ | refine WL.fd35_0 rfl (by decide) rfl ?_ | refine WL.fd37_2 rfl (by decide) rfl ?_)
      refine WL.buildS 1 126 1 [(0, .pointer (some ⟨g, 15, none⟩))] (ptrs g [15]) rfl (by decide) rfl rfl rfl (fun w => by kernel_rfl) (fun gb2 => ?_)
      skip
      refine WL.call [] [] [pt cg, .slice (some ⟨gb2, 0, none⟩) 1 1] _ _ [] (smallE (.w A1 c1 o1 b1) e (.slice B6 e.nums.length k6) (.slice B27 e.mem.length k27) cg g gb2 [15] (by decide) (okj_1 (fun _ _ _ => ⟨rfl, fun _ => rfl⟩)) (room_le hr1 (by decide))) rfl (by decide) rfl Try.func80 rfl rfl rfl rfl (permC _) (fun _ _ => trivial) ?_
      rintro r H1 hh
      obtain ⟨rfl, s2, t2, rfl⟩ := evP_w hh
      rw [List.append_nil]
      have hr2 : Cod.room 384 s2 := t2.room hr1
      obtain ⟨_, A2, c2, o2, b2, rfl⟩ := t2.w
      repeat (first | refine WC.region ?_ | refine WL.move _ rfl (by decide) rfl ?_ | refine WL.nilc _ rfl (by decide) rfl ?_ | refine WL.fd37_2 rfl (by decide) rfl ?_)
      by_cases h5 : e.n 15 = 5
      · refine WL.call [] [] [pt cg, .pointer (some ⟨g, 15, none⟩)] _ _ [] (form_w A2 c2 o2 b2 e (.slice B6 e.nums.length k6) cg g B27 k27 h5 hL27 (room_le hr2 (by decide))) rfl (by decide) rfl Try.func82 rfl rfl rfl rfl (by rw [List.append_nil]) (fun w' hI => hR.2.now rfl hI) ?_
        rintro r H1 ⟨rfl, _, s3, t3, rfl⟩
        rw [List.append_nil]
        repeat (first | refine WL.nil ?_ | with_reducible refine QE.blk_n ?_ | refine WL.assign _ rfl (by decide) rfl ?_)
        exact QE.cut (true, s3) ⟨_, (t1.comp t2).comp t3, by decide, .inl ⟨rfl, by unfold evF; rw [if_neg h1, if_pos h2, h5]; rfl⟩⟩ (.cons rfl (.cons rfl (.cons rfl .nil))) (.refl _)
      · refine WL.call [] [] [pt cg, .pointer (some ⟨g, 15, none⟩)] _ _ [] (change_con (.w A2 c2 o2 b2) e (.slice B6 e.nums.length k6) (.slice B27 e.mem.length k27) cg g h5 (room_le hr2 (by decide))) rfl (by decide) rfl Try.func82 rfl rfl rfl rfl (by rw [List.append_nil]) (fun _ _ => trivial) ?_
        rintro r H1 ⟨s3, n3, rfl, ⟨fs, hF, rfl, t3⟩ | ⟨hF, rfl, rfl, rfl⟩⟩
        · have hn : n3 = e.n := congrArg Ev.n t3.w.1
          subst hn
          rw [List.append_nil]
          repeat (first | refine WL.nil ?_ | with_reducible refine QE.blk_n ?_ | refine WL.assign _ rfl (by decide) rfl ?_)
          refine QE.cut (true, s3) ⟨_, (t1.comp t2).comp t3, ?_, .inl ⟨rfl, by unfold evF; rw [if_neg h1, if_pos h2, hF]; rfl⟩⟩ (.cons rfl (.cons rfl (.cons rfl .nil))) (.refl _)
          have hsz := liveF_sz hF
          simp only [szF, List.map_append, List.sum_append] at hsz ⊢
          simp [szD]; omega
        · rw [List.append_nil]
          repeat (first | refine WL.nil ?_ | with_reducible refine QE.blk_n ?_ | refine WL.assign _ rfl (by decide) rfl ?_)
          exact QE.cut (false, (.w A2 c2 o2 b2)) ⟨_, t1.comp t2, by decide, .inr ⟨rfl, by unfold evF; rw [if_neg h1, if_pos h2, hF]; rfl⟩⟩ (.cons rfl (.cons rfl (.cons rfl .nil))) (.refl _)
    have h2 : ¬ e.n 0 = 2 := by simpa using h2
    repeat (first | refine WC.seq ?_ | refine WC.region ?_ | refine WL.nil ?_ | with_reducible refine QE.then_n ?_ | refine WL.assign _ rfl (by decide) rfl ?_ | refine WL.bin _ _ _ rfl (by decide) rfl rfl (fun _ => rfl) ?_)
    refine WC.cond _ rfl (fun h3 => ?_) (fun h3 => ?_)
    · have h3 : e.n 0 = 3 := by simpa using h3
      refine WC.perm _ ((carH cg (.w A1 c1 o1 b1)).perm_append_comm (l₂ := [_])) ?_
      repeat (first | refine WC.region ?_ | refine WL.move _ rfl (by decide) rfl ?_ | refine WL.nilc _ rfl (by decide) rfl ?_ | refine WL.fd37_3 rfl (by decide) rfl ?_)
      refine WL.call [] [] [pt cg, .int .i64 (8 : Nat), .pointer (some ⟨g, 28, none⟩)] _ _ [] (ev83 (.w A1 c1 o1 b1) e (.slice B6 e.nums.length k6) (.slice B27 e.mem.length k27) cg g 28 8 (by decide) (fun _ _ _ => ⟨rfl, fun _ => rfl⟩) (room_le hr1 (by decide))) rfl (by decide) rfl Try.func83 rfl rfl rfl rfl (by rw [List.append_nil]) (fun _ _ => trivial) ?_
      rintro r H1 hh
      obtain ⟨rfl, s2, t2, rfl⟩ := evP_w hh
      rw [List.append_nil]
      have hr2 : Cod.room 384 s2 := t2.room hr1
      obtain ⟨_, A2, c2, o2, b2, rfl⟩ := t2.w
      repeat (first | refine WL.nil ?_ | with_reducible refine QE.blk_n ?_)
      exact QE.cut (true, (.w A2 c2 o2 b2)) ⟨_, t1.comp t2, by decide, .inl ⟨rfl, by unfold evF; rw [if_neg h1, if_neg h2, if_pos h3]; rfl⟩⟩ (.cons rfl (.cons rfl (.cons rfl .nil))) (.refl _)
    · have h3 : ¬ e.n 0 = 3 := by simpa using h3
      refine WC.perm _ ((carH cg (.w A1 c1 o1 b1)).perm_append_comm (l₂ := [_])) ?_
      repeat (first | refine WC.region ?_ | refine WL.nil ?_ | with_reducible refine QE.blk_n ?_ | refine WL.assign _ rfl (by decide) rfl ?_)
      exact QE.cut (false, (.w A1 c1 o1 b1)) ⟨_, t1, by decide, .inr ⟨rfl, by unfold evF; rw [if_neg h1, if_neg h2, if_neg h3]⟩⟩ (.cons rfl (.cons rfl (.cons rfl .nil))) (.refl _)
def SlR (e : Ev) (st tt : Value) (X : List Ck) : Prop := e.nums.length ≤ 255 ∧ e.mem.length ≤ 255 ∧
  ((st = .slice none 0 0 ∧ tt = .slice none 0 0 ∧ X = [] ∧ e.nums = [] ∧ e.mem = []) ∨
   (∃ A c, st = .slice A e.nums.length c ∧ tt = .slice none 0 0 ∧ e.mem = [] ∧ X = [.row (.slice A e.nums.length c) 3 1 e.nums.length (i64s e.nums)]) ∨
   (∃ A c, tt = .slice A e.mem.length c ∧ st = .slice none 0 0 ∧ e.nums = [] ∧ X = [.row (.slice A e.mem.length c) 3 1 e.mem.length (i64s e.mem)]))
set_option maxHeartbeats 8000000 in
set_option maxRecDepth 100000 in
theorem event_r (rg : Nat) (A : Option Addr) (c : Nat) (l : List Int) (wk : Nat) (cg g : Nat) (hr : Cod.room 400 (.r rg A c l wk 0 false)) :
    Con Try.prog 59 #[pt cg, pt g] (carH cg (.r rg A c l wk 0 false) ++ [.blk g (evC zeroEv.n (.slice none 0 0) (.slice none 0 0)) 37]) (fun _ => True)
      (fun r H' => r = .tuple #[] ∧ ∃ wk' er' b e' st' tt' X, H' = carH cg (.r rg A c l wk' er' b) ++ (.blk g (evC e'.n st' tt') 37 :: X) ∧ SlR e' st' tt' X ∧ Cod.room 0 (.r rg A c l wk' er' b) ∧ resOf b er' l wk' e' = rdE (l.drop wk)) := by
  refine Con.intro Try.func59 rfl Try.ntmps59 rfl (fun w hR => ?_)
  unfold pt
  repeat (first | refine WC.seq ?_ | refine WC.region ?_ | refine WL.move _ rfl (by decide) rfl ?_ | refine WL.nilc _ rfl (by decide) rfl ?_ | refine WL.fd37_0 rfl (by decide) rfl ?_)
  refine WL.buildS 1 126 1 [(0, .pointer (some ⟨g, 0, none⟩))] (ptrs g [0]) rfl (by decide) rfl rfl rfl (fun w => by kernel_rfl) (fun gb => ?_)
  skip
  refine WL.call [] [] [pt cg, .slice (some ⟨gb, 0, none⟩) 1 1] _ _ [] (smallE (.r rg A c l wk 0 false) zeroEv (.slice none 0 0) (.slice none 0 0) cg g gb [0] (by decide) (okj_1 (fun _ _ _ => ⟨rfl, fun _ => rfl⟩)) (room_le hr (by decide))) rfl (by decide) rfl Try.func80 rfl rfl rfl rfl (permC _) (fun _ _ => trivial) ?_
  rintro r H1 ⟨rfl, s1, n1, t1, rfl⟩
  rw [List.append_nil]
  have hr1 : Cod.room 392 s1 := t1.room hr
  have t1' := t1
  obtain ⟨wk1, er1, b1, rfl, rm1, x1⟩ := t1'
  refine WL.perm _ ((carH cg (.r rg A c l wk1 er1 b1)).perm_append_comm (l₂ := [_])).symm ?_
  repeat (first | refine WL.nil ?_ | with_reducible refine QE.then_n ?_)
  refine WC.seq ?_
  repeat (first | refine WC.region ?_ | refine WL.nil ?_ | with_reducible refine QE.then_n ?_ | refine WL.assign _ rfl (by decide) rfl ?_)
  refine WC.cut (σ := Bool × Cs × Ev × Value × Value × List Ck) (fun x => [(0, .pointer (some ⟨cg, 0, none⟩)), (1, .pointer (some ⟨g, 0, none⟩)), (4, .bool x.1)]) (fun x => carH cg x.2.1 ++ (.blk g (evC x.2.2.1.n x.2.2.2.1 x.2.2.2.2.1) 37 :: x.2.2.2.2.2)) (fun x => ∃ wk' er' b, x.2.1 = .r rg A c l wk' er' b ∧ Cod.room 0 (.r rg A c l wk' er' b) ∧ SlR x.2.2.1 x.2.2.2.1 x.2.2.2.2.1 x.2.2.2.2.2 ∧ rdE (l.drop wk) = fin x.1 (resOf b er' l wk' x.2.2.1)) ?_ ?_
  · rintro ⟨ok, sF, eF, stF, ttF, X⟩ ⟨wkF, erF, bF, rfl, rmF, slF, xF⟩
    dsimp only at slF xF ⊢
    rw [← fin_res] at xF
    have rm' : ∀ b', Cod.room 0 (.r rg A c l wkF erF b') := fun b' => rmF
    simp only [carH, pt, List.cons_append, List.nil_append]
    cases bF
    · cases ok
      · repeat (first | refine WC.region ?_ | refine WL.move _ rfl (by decide) rfl ?_ | refine WL.bin _ _ _ rfl (by decide) rfl rfl (fun _ => rfl) ?_ | refine WL.un _ _ rfl (by decide) rfl (fun _ => rfl) ?_ | refine WL.nilc _ rfl (by decide) rfl ?_ | refine WL.fd96_0 rfl (by decide) rfl ?_ | refine WL.fd96_2 rfl (by decide) rfl ?_ | refine WL.ld4 0 rfl (by decide) rfl rfl rfl ?_ | refine WL.ld68 0 rfl (by decide) rfl rfl rfl ?_)
        refine WL.call [] [] [pt rg] _ _ (.blk cg [pt rg, .slice none 0 0, .bool false] 96 :: .blk g (evC eF.n stF ttF) 37 :: X) (err_con rg c wkF A l erF) rfl (by decide) rfl Try.func37 rfl rfl rfl rfl (List.perm_middle (l₁ := [_, _])) (fun _ _ => trivial) ?_
        rintro r H1 ⟨rfl, rfl⟩
        unfold rd
        refine WL.perm _ (List.perm_middle (l₁ := [_, _])).symm ?_
        repeat (first | refine WL.nil ?_ | refine WL.bin _ _ _ rfl (by decide) rfl rfl (fun _ => rfl) ?_ | refine WL.nilc _ rfl (by decide) rfl ?_ | refine WL.pick _ _ rfl (by decide) rfl rfl ?_ | refine WL.fd96_2 rfl (by decide) rfl ?_ | refine WL.st4 0 rfl rfl rfl rfl rfl rfl rfl rfl rfl ?_)
        exact QE.end0 (carH cg (.r rg A c l wkF erF (erF == 0)) ++ (.blk g (evC eF.n stF ttF) 37 :: X)) rfl (.refl _) ⟨rfl, wkF, erF, _, eF, stF, ttF, X, rfl, slF, rm' _, by rw [xF]; congr 1⟩
      · repeat (first | refine WC.region ?_ | refine WL.nil ?_ | refine WL.move _ rfl (by decide) rfl ?_ | refine WL.un _ _ rfl (by decide) rfl (fun _ => rfl) ?_ | refine WL.nilc _ rfl (by decide) rfl ?_ | refine WL.off rfl (by decide) ?_ | refine WL.pick _ _ rfl (by decide) rfl rfl ?_ | refine WL.offu rfl (by decide) ?_ | refine WL.fd96_2 rfl (by decide) rfl ?_ | refine WL.ld4 0 rfl (by decide) rfl rfl rfl ?_ | refine WL.st4 0 rfl rfl rfl rfl rfl rfl rfl rfl rfl ?_)
        exact QE.end0 (carH cg (.r rg A c l wkF erF false) ++ (.blk g (evC eF.n stF ttF) 37 :: X)) rfl (.refl _) ⟨rfl, wkF, erF, _, eF, stF, ttF, X, rfl, slF, rm' _, by rw [xF]; rfl⟩
    · repeat (first | refine WC.region ?_ | refine WL.nil ?_ | refine WL.move _ rfl (by decide) rfl ?_ | refine WL.nilc _ rfl (by decide) rfl ?_ | refine WL.off rfl (by decide) ?_ | refine WL.pick _ _ rfl (by decide) rfl rfl ?_ | refine WL.offu rfl (by decide) ?_ | refine WL.fd96_2 rfl (by decide) rfl ?_ | refine WL.ld4 0 rfl (by decide) rfl rfl rfl ?_ | refine WL.st4 0 rfl rfl rfl rfl rfl rfl rfl rfl rfl ?_)
      exact QE.end0 (carH cg (.r rg A c l wkF erF true) ++ (.blk g (evC eF.n stF ttF) 37 :: X)) rfl (.refl _) ⟨rfl, wkF, erF, _, eF, stF, ttF, X, rfl, slF, rm' _, by rw [xF]; rfl⟩
  · repeat (first | refine WC.seq ?_ | refine WC.region ?_ | refine WC.block ?_ | refine WL.nil ?_ | with_reducible refine QE.then_n ?_ | refine WL.move _ rfl (by decide) rfl ?_ | refine WL.assign _ rfl (by decide) rfl ?_ | refine WL.bin _ _ _ rfl (by decide) rfl rfl (fun _ => rfl) ?_ | refine WL.nilc _ rfl (by decide) rfl ?_ | refine WL.fd37_0 rfl (by decide) rfl ?_ | refine WL.ld3 0 rfl (by decide) rfl rfl rfl ?_)
    refine WC.cond _ rfl (fun h1 => ?_) (fun h1 => ?_)
    · have h1 : n1 0 = 1 := by simpa using h1
      refine WC.perm _ ((carH cg (.r rg A c l wk1 er1 b1)).perm_append_comm (l₂ := [_])) ?_
      repeat (first | refine WC.seq ?_ | refine WC.region ?_ | refine WL.move _ rfl (by decide) rfl ?_ | refine WL.nilc _ rfl (by decide) rfl ?_ | refine WL.fd33_0 rfl (by decide) rfl ?_ | refine WL.fd37_1 rfl (by decide) rfl ?_)
      refine WL.buildS 1 126 1 [(0, .pointer (some ⟨g, 1, none⟩))] (ptrs g [1]) rfl (by decide) rfl rfl rfl (fun w => by kernel_rfl) (fun gb2 => ?_)
      skip
      refine WL.call [] [] [pt cg, .slice (some ⟨gb2, 0, none⟩) 1 1] _ _ [] (smallE (.r rg A c l wk1 er1 b1) ⟨n1, zeroEv.nums, zeroEv.mem⟩ (.slice none 0 0) (.slice none 0 0) cg g gb2 [1] (by decide) (okj_1 (fun _ _ _ => ⟨rfl, fun _ => rfl⟩)) (room_le hr1 (by decide))) rfl (by decide) rfl Try.func80 rfl rfl rfl rfl (permC _) (fun _ _ => trivial) ?_
      rintro r H1 ⟨rfl, s2, n2, t2, rfl⟩
      rw [List.append_nil]
      have hr2 : Cod.room 384 s2 := t2.room hr1
      have t2' := t2
      obtain ⟨wk2, er2, b2, rfl, rm2, x2⟩ := t2'
      refine WL.perm _ ((carH cg (.r rg A c l wk2 er2 b2)).perm_append_comm (l₂ := [_])).symm ?_
      repeat (refine WC.seq ?_)
      refine WC.draw 8 #[false, false, false, false, false, false, false, false] [.blk g (evC n2 (.slice none 0 0) (.slice none 0 0)) 37] [] (by kernel_rfl) rfl rfl (by repeat (first | exact List.Sublist.refl _ | exact List.nil_sublist _ | refine List.Sublist.cons_cons _ ?_ | refine List.Sublist.cons _ ?_)) ?_
      refine WA.move 1 #[false, true, false, false, false, false, false, false] _ rfl rfl rfl (by decide) (by kernel_rfl) (by repeat (first | with_reducible refine Qp.then ?_ | with_reducible refine Qp.blk ?_ | with_reducible exact Qp.body)) ?_
      refine WA.nilc 2 #[false, true, true, false, false, false, false, false] _ rfl rfl rfl (by decide) (by kernel_rfl) (by repeat (first | with_reducible refine Qp.then ?_ | with_reducible refine Qp.blk ?_ | with_reducible exact Qp.body)) ?_
      refine WA.faddr 3 #[false, true, true, true, false, false, false, false] _ _ rfl (fa37_1 _ _) rfl rfl (by decide) (by kernel_rfl) (by repeat (first | with_reducible refine Qp.then ?_ | with_reducible refine Qp.blk ?_ | with_reducible exact Qp.body)) ?_
      refine WA.faddr 4 #[false, true, true, true, true, false, false, false] _ _ rfl (fa33_0 _ _) rfl rfl (by decide) (by kernel_rfl) (by repeat (first | with_reducible refine Qp.then ?_ | with_reducible refine Qp.blk ?_ | with_reducible exact Qp.body)) ?_
      refine WA.load 5 #[false, true, true, true, true, true, false, false] 0 _ _ _ _ _ rfl rfl (by decide) (by repeat (first | exact List.Sublist.refl _ | exact List.nil_sublist _ | refine List.Sublist.cons_cons _ ?_ | refine List.Sublist.cons _ ?_)) (by kernel_rfl) (by repeat (first | with_reducible refine Qp.then ?_ | with_reducible refine Qp.blk ?_ | with_reducible exact Qp.body)) rfl agg3 rfl rfl ?_
      refine WA.call 0 #[true, true, true, true, true, true, false, false] [] [] [] _ [] _ calls_con rfl rfl (by decide) (by kernel_rfl) rfl rfl Try.func81 rfl rfl rfl rfl (.refl _) (fun _ _ => trivial) ?_
      rintro r H1 ⟨mr, rfl, rfl⟩
      refine ⟨(by repeat (first | exact List.Sublist.refl _ | exact List.nil_sublist _ | refine List.Sublist.cons_cons _ ?_ | refine List.Sublist.cons _ ?_)), ?_⟩
      refine WA.lookup (zero := .nilFunc) 6 #[true, true, true, true, true, true, true, false] 0 tabV rfl rfl (by decide) (by kernel_rfl) rfl (by repeat (first | exact List.Sublist.refl _ | exact List.nil_sublist _ | refine List.Sublist.cons_cons _ ?_ | refine List.Sublist.cons _ ?_)) rfl rfl rfl und128 Try.underlying3 (fun w => by kernel_rfl) rfl ?_
      refine WA.assign 7 #[true, true, true, true, true, true, true, true] _ rfl rfl rfl (by decide) (by kernel_rfl) (by repeat (first | with_reducible refine Qp.then ?_ | with_reducible refine Qp.blk ?_ | with_reducible exact Qp.body)) ?_
      refine WA.done (by kernel_rfl) ?_
      repeat (with_reducible refine QE.then_n ?_)
      refine WC.sub _ (.cons _ (.refl _)) ?_
      refine WC.perm _ ((carH cg (.r rg A c l wk2 er2 b2)).perm_append_comm (l₂ := [_])) ?_
      by_cases h10 : n2 1 = 10
      · rw [h10, lkp10.1]
        unfold fnV
        repeat (first | refine WC.seq ?_ | refine WC.region ?_ | refine WL.nil ?_ | with_reducible refine QE.then_n ?_ | refine WC.cond_t rfl ?_ | refine WL.move _ rfl (by decide) rfl ?_ | refine WL.bin _ _ _ rfl (by decide) rfl rfl (fun _ => rfl) ?_ | refine WL.nilc _ rfl (by decide) rfl ?_ | refine WL.fd37_1 rfl (by decide) rfl ?_)
        refine WL.call [] [] [pt cg, .pointer (some ⟨g, 1, none⟩)] _ _ [] (poll_r rg A c l wk2 er2 b2 ⟨n2, zeroEv.nums, zeroEv.mem⟩ (.slice none 0 0) cg g none 0 0 (room_le hr2 (by decide))) rfl (by decide) rfl Try.func93 rfl rfl rfl rfl (by rw [List.append_nil]) (fun _ _ => trivial) ?_
        rintro r H1 ⟨rfl, s3, A3, c3, n3, xs, t3, hxs, rfl⟩
        rw [List.append_nil]
        obtain ⟨wk3, er3, b3, rfl, rm3, x3⟩ := t3
        repeat (first | refine WL.nil ?_ | with_reducible refine QE.blk_n ?_)
        refine QE.cut (true, (.r rg A c l wk3 er3 b3), Ev.setl ⟨n3, zeroEv.nums, zeroEv.mem⟩ 6 xs, .slice A3 xs.length c3, .slice none 0 0, [.row (.slice A3 xs.length c3) 3 1 xs.length (i64s xs)]) ⟨wk3, er3, b3, rfl, rm3, ⟨hxs, Nat.zero_le _, .inr (.inl ⟨A3, c3, rfl, rfl, rfl, rfl⟩)⟩, ?_⟩ (.cons rfl (.cons rfl (.cons rfl .nil))) (.refl _)
        exact rdE_sub x1 (fun r' e' hh => by rw [resOf_good hh]; exact h1) x2 (fun r' e' hh => .inl ⟨rfl, by rw [resOf_good hh]; show callF (n2 1) = _; rw [h10]; exact lkp10.2⟩) x3
      · rcases carry (n2 1) h10 with ⟨f, fn, fs, hv, hF, hfn, hnm, hbd, hsz, hc⟩ | ⟨hv, hF⟩
        · rw [hv]
          unfold fnV
          repeat (first | refine WC.seq ?_ | refine WC.region ?_ | refine WL.nil ?_ | with_reducible refine QE.then_n ?_ | refine WC.cond_t rfl ?_ | refine WL.move _ rfl (by decide) rfl ?_ | refine WL.bin _ _ _ rfl (by decide) rfl rfl (fun _ => rfl) ?_ | refine WL.nilc _ rfl (by decide) rfl ?_ | refine WL.fd37_1 rfl (by decide) rfl ?_)
          refine WL.call [] [] [pt cg, .pointer (some ⟨g, 1, none⟩)] _ _ [] (hc (.r rg A c l wk2 er2 b2) ⟨n2, zeroEv.nums, zeroEv.mem⟩ (.slice none 0 0) (.slice none 0 0) cg g (room_le hr2 (by decide))) rfl (by decide) rfl hfn hnm hbd rfl rfl (by rw [List.append_nil]) (fun _ _ => trivial) ?_
          rintro r H1 ⟨rfl, s3, n3, t3, rfl⟩
          rw [List.append_nil]
          obtain ⟨wk3, er3, b3, rfl, rm3, x3⟩ := t3
          repeat (first | refine WL.nil ?_ | with_reducible refine QE.blk_n ?_)
          refine QE.cut (true, (.r rg A c l wk3 er3 b3), ⟨n3, zeroEv.nums, zeroEv.mem⟩, .slice none 0 0, .slice none 0 0, []) ⟨wk3, er3, b3, rfl, rm3, ⟨Nat.zero_le _, Nat.zero_le _, .inl ⟨rfl, rfl, rfl, rfl, rfl⟩⟩, ?_⟩ (.cons rfl (.cons rfl (.cons rfl .nil))) (.refl _)
          exact rdE_sub x1 (fun r' e' hh => by rw [resOf_good hh]; exact h1) x2 (fun r' e' hh => .inl ⟨rfl, by rw [resOf_good hh]; exact hF⟩) x3
        · rw [hv]
          repeat (first | refine WC.seq ?_ | refine WC.region ?_ | refine WL.nil ?_ | with_reducible refine QE.then_n ?_ | with_reducible refine QE.blk_n ?_ | refine WC.cond_f rfl ?_ | refine WL.move _ rfl (by decide) rfl ?_ | refine WL.assign _ rfl (by decide) rfl ?_ | refine WL.bin _ _ _ rfl (by decide) rfl rfl (fun _ => rfl) ?_)
          refine QE.cut (false, (.r rg A c l wk2 er2 b2), ⟨n2, zeroEv.nums, zeroEv.mem⟩, .slice none 0 0, .slice none 0 0, []) ⟨wk2, er2, b2, rfl, rm2, ⟨Nat.zero_le _, Nat.zero_le _, .inl ⟨rfl, rfl, rfl, rfl, rfl⟩⟩, ?_⟩ (.cons rfl (.cons rfl (.cons rfl .nil))) (.refl _)
          exact rdE_sub (fs := []) x1 (fun r' e' hh => by rw [resOf_good hh]; exact h1) x2 (fun r' e' hh => .inr ⟨rfl, by rw [resOf_good hh]; exact hF, rfl⟩) rfl
    have h1 : ¬ n1 0 = 1 := by simpa using h1
    repeat (first | refine WC.seq ?_ | refine WC.region ?_ | refine WL.nil ?_ | with_reducible refine QE.then_n ?_ | refine WL.assign _ rfl (by decide) rfl ?_ | refine WL.bin _ _ _ rfl (by decide) rfl rfl (fun _ => rfl) ?_)
    refine WC.cond _ rfl (fun h2 => ?_) (fun h2 => ?_)
    · have h2 : n1 0 = 2 := by simpa using h2
      refine WC.perm _ ((carH cg (.r rg A c l wk1 er1 b1)).perm_append_comm (l₂ := [_])) ?_
      repeat (first | refine WC.seq ?_ | refine WC.region ?_ | refine WL.move _ rfl (by decide) rfl ?_ | refine WL.nilc _ rfl (by decide) rfl ?_ | refine WL.fd35_0 rfl (by decide) rfl ?_ | refine WL.fd37_2 rfl (by decide) rfl ?_)
      refine WL.buildS 1 126 1 [(0, .pointer (some ⟨g, 15, none⟩))] (ptrs g [15]) rfl (by decide) rfl rfl rfl (fun w => by kernel_rfl) (fun gb2 => ?_)
      skip
      refine WL.call [] [] [pt cg, .slice (some ⟨gb2, 0, none⟩) 1 1] _ _ [] (smallE (.r rg A c l wk1 er1 b1) ⟨n1, zeroEv.nums, zeroEv.mem⟩ (.slice none 0 0) (.slice none 0 0) cg g gb2 [15] (by decide) (okj_1 (fun _ _ _ => ⟨rfl, fun _ => rfl⟩)) (room_le hr1 (by decide))) rfl (by decide) rfl Try.func80 rfl rfl rfl rfl (permC _) (fun _ _ => trivial) ?_
      rintro r H1 ⟨rfl, s2, n2, t2, rfl⟩
      rw [List.append_nil]
      have hr2 : Cod.room 384 s2 := t2.room hr1
      have t2' := t2
      obtain ⟨wk2, er2, b2, rfl, rm2, x2⟩ := t2'
      repeat (first | refine WC.region ?_ | refine WL.move _ rfl (by decide) rfl ?_ | refine WL.nilc _ rfl (by decide) rfl ?_ | refine WL.fd37_2 rfl (by decide) rfl ?_)
      by_cases h5 : n2 15 = 5
      · refine WL.call [] [] [pt cg, .pointer (some ⟨g, 15, none⟩)] _ _ [] (form_r rg A c l wk2 er2 b2 ⟨n2, zeroEv.nums, zeroEv.mem⟩ (.slice none 0 0) cg g none 0 0 h5 (room_le hr2 (by decide))) rfl (by decide) rfl Try.func82 rfl rfl rfl rfl (by rw [List.append_nil]) (fun _ _ => trivial) ?_
        rintro r H1 ⟨rfl, _, s3, A3, c3, n3, xs, t3, hxs, rfl⟩
        rw [List.append_nil]
        obtain ⟨wk3, er3, b3, rfl, rm3, x3⟩ := t3
        repeat (first | refine WL.nil ?_ | with_reducible refine QE.blk_n ?_ | refine WL.assign _ rfl (by decide) rfl ?_)
        refine QE.cut (true, (.r rg A c l wk3 er3 b3), Ev.setl ⟨n3, zeroEv.nums, zeroEv.mem⟩ 27 xs, .slice none 0 0, .slice A3 xs.length c3, [.row (.slice A3 xs.length c3) 3 1 xs.length (i64s xs)]) ⟨wk3, er3, b3, rfl, rm3, ⟨Nat.zero_le _, hxs, .inr (.inr ⟨A3, c3, rfl, rfl, rfl, rfl⟩)⟩, ?_⟩ (.cons rfl (.cons rfl (.cons rfl .nil))) (.refl _)
        exact rdE_live x1 (fun r' e' hh => by rw [resOf_good hh]; exact h2) x2 (fun r' e' hh => .inl ⟨rfl, by rw [resOf_good hh]; show liveF (n2 15) = _; rw [h5]; rfl⟩) x3
      · refine WL.call [] [] [pt cg, .pointer (some ⟨g, 15, none⟩)] _ _ [] (change_con (.r rg A c l wk2 er2 b2) ⟨n2, zeroEv.nums, zeroEv.mem⟩ (.slice none 0 0) (.slice none 0 0) cg g h5 (room_le hr2 (by decide))) rfl (by decide) rfl Try.func82 rfl rfl rfl rfl (by rw [List.append_nil]) (fun _ _ => trivial) ?_
        rintro r H1 ⟨s3, n3, rfl, ⟨fs, hF, rfl, t3⟩ | ⟨hF, rfl, rfl, rfl⟩⟩
        · rw [List.append_nil]
          obtain ⟨wk3, er3, b3, rfl, rm3, x3⟩ := t3
          repeat (first | refine WL.nil ?_ | with_reducible refine QE.blk_n ?_ | refine WL.assign _ rfl (by decide) rfl ?_)
          refine QE.cut (true, (.r rg A c l wk3 er3 b3), ⟨n3, zeroEv.nums, zeroEv.mem⟩, .slice none 0 0, .slice none 0 0, []) ⟨wk3, er3, b3, rfl, rm3, ⟨Nat.zero_le _, Nat.zero_le _, .inl ⟨rfl, rfl, rfl, rfl, rfl⟩⟩, ?_⟩ (.cons rfl (.cons rfl (.cons rfl .nil))) (.refl _)
          exact rdE_live x1 (fun r' e' hh => by rw [resOf_good hh]; exact h2) x2 (fun r' e' hh => .inl ⟨rfl, by rw [resOf_good hh]; exact hF⟩) x3
        · rw [List.append_nil]
          repeat (first | refine WL.nil ?_ | with_reducible refine QE.blk_n ?_ | refine WL.assign _ rfl (by decide) rfl ?_)
          refine QE.cut (false, (.r rg A c l wk2 er2 b2), ⟨n3, zeroEv.nums, zeroEv.mem⟩, .slice none 0 0, .slice none 0 0, []) ⟨wk2, er2, b2, rfl, rm2, ⟨Nat.zero_le _, Nat.zero_le _, .inl ⟨rfl, rfl, rfl, rfl, rfl⟩⟩, ?_⟩ (.cons rfl (.cons rfl (.cons rfl .nil))) (.refl _)
          exact rdE_live (fs := []) x1 (fun r' e' hh => by rw [resOf_good hh]; exact h2) x2 (fun r' e' hh => .inr ⟨rfl, by rw [resOf_good hh]; exact hF, rfl⟩) rfl
    have h2 : ¬ n1 0 = 2 := by simpa using h2
    repeat (first | refine WC.seq ?_ | refine WC.region ?_ | refine WL.nil ?_ | with_reducible refine QE.then_n ?_ | refine WL.assign _ rfl (by decide) rfl ?_ | refine WL.bin _ _ _ rfl (by decide) rfl rfl (fun _ => rfl) ?_)
    refine WC.cond _ rfl (fun h3 => ?_) (fun h3 => ?_)
    · have h3 : n1 0 = 3 := by simpa using h3
      refine WC.perm _ ((carH cg (.r rg A c l wk1 er1 b1)).perm_append_comm (l₂ := [_])) ?_
      repeat (first | refine WC.region ?_ | refine WL.move _ rfl (by decide) rfl ?_ | refine WL.nilc _ rfl (by decide) rfl ?_ | refine WL.fd37_3 rfl (by decide) rfl ?_)
      refine WL.call [] [] [pt cg, .int .i64 (8 : Nat), .pointer (some ⟨g, 28, none⟩)] _ _ [] (ev83 (.r rg A c l wk1 er1 b1) ⟨n1, zeroEv.nums, zeroEv.mem⟩ (.slice none 0 0) (.slice none 0 0) cg g 28 8 (by decide) (fun _ _ _ => ⟨rfl, fun _ => rfl⟩) (room_le hr1 (by decide))) rfl (by decide) rfl Try.func83 rfl rfl rfl rfl (by rw [List.append_nil]) (fun _ _ => trivial) ?_
      rintro r H1 ⟨rfl, s2, n2, t2, rfl⟩
      rw [List.append_nil]
      have hr2 : Cod.room 384 s2 := t2.room hr1
      have t2' := t2
      obtain ⟨wk2, er2, b2, rfl, rm2, x2⟩ := t2'
      repeat (first | refine WL.nil ?_ | with_reducible refine QE.blk_n ?_)
      refine QE.cut (true, (.r rg A c l wk2 er2 b2), ⟨n2, zeroEv.nums, zeroEv.mem⟩, .slice none 0 0, .slice none 0 0, []) ⟨wk2, er2, b2, rfl, rm2, ⟨Nat.zero_le _, Nat.zero_le _, .inl ⟨rfl, rfl, rfl, rfl, rfl⟩⟩, ?_⟩ (.cons rfl (.cons rfl (.cons rfl .nil))) (.refl _)
      exact rdE_step x1 (fun r' e' hh => by rw [resOf_good hh]; exact h3) x2
    · have h3 : ¬ n1 0 = 3 := by simpa using h3
      refine WC.perm _ ((carH cg (.r rg A c l wk1 er1 b1)).perm_append_comm (l₂ := [_])) ?_
      repeat (first | refine WC.region ?_ | refine WL.nil ?_ | with_reducible refine QE.blk_n ?_ | refine WL.assign _ rfl (by decide) rfl ?_)
      refine QE.cut (false, (.r rg A c l wk1 er1 b1), ⟨n1, zeroEv.nums, zeroEv.mem⟩, .slice none 0 0, .slice none 0 0, []) ⟨wk1, er1, b1, rfl, rm1, ⟨Nat.zero_le _, Nat.zero_le _, .inl ⟨rfl, rfl, rfl, rfl, rfl⟩⟩, ?_⟩ (.cons rfl (.cons rfl (.cons rfl .nil))) (.refl _)
      exact rdE_none x1 (fun r' e' hh => by rw [resOf_good hh]; exact ⟨h1, h2, h3⟩)
end Go.Proofs.Ytalafklnnohlgaa.Cod
