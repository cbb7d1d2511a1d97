/- code's calls: what carries each kind of call; poll. Conditions: the bytes so far leave room; a list that is read lies apart from what is written. -/
import Derived.Test.YtalafklnnohlgaaCod6
import Derived.Test.YtalafklnnohlgaaX13
namespace Go.Proofs.Ytalafklnnohlgaa.Cod
open Go.RowKit X Go.Proofs.YtalafklnnohlgaaW.PrintLast
open Oct hiding agg39 size39
set_option linter.unusedVariables false
set_option linter.unusedSimpArgs false

def fnV (f : Nat) : Value := .func (.func f) #[] #[]
/-- Which function carries which kind of call. -/
def tab : List (Int × Nat) := [(1, 90), (2, 91), (3, 92), (10, 93), (13, 94), (16, 95), (18, 96), (19, 97), (4, 98), (5, 98), (6, 98), (7, 98), (8, 98), (9, 98), (11, 98), (12, 98), (20, 98), (14, 99), (15, 99), (17, 99)]
def tabE (i : Nat) : List (Int × Nat) → List MapEntry
  | [] => []
  | p :: l => ⟨.int .i64 p.1, fnV p.2, i⟩ :: tabE (i + 1) l
def K1 : List Int := [4, 5, 6, 7, 8, 9, 11, 12, 20]
def K2 : List Int := [14, 15, 17]
theorem und128 : Try.prog.underlying 128 = some (.map 3 127) := by kernel_rfl
set_option maxHeartbeats 4000000 in
set_option maxRecDepth 100000 in
theorem calls_con : Con Try.prog 81 #[] [] (fun _ => True) (fun v H' => ∃ r, v = .map (some r) ∧ H' = [.obj r (.map (tabE 0 tab).toArray 20)]) := by
  refine Con.intro Try.func81 rfl Try.ntmps81 rfl (fun w _ => ?_)
  repeat (first | refine WC.seq ?_ | refine WC.region ?_ | refine WL.assign _ rfl (by decide) rfl ?_)
  refine WL.makeMap rfl (by decide) (fun r => ?_)
  refine WL.insert 0 rfl rfl rfl rfl rfl und128 Try.underlying3 rfl ?_
  refine WL.insert 0 rfl rfl rfl rfl rfl und128 Try.underlying3 rfl ?_
  refine WL.insert 0 rfl rfl rfl rfl rfl und128 Try.underlying3 rfl ?_
  refine WL.insert 0 rfl rfl rfl rfl rfl und128 Try.underlying3 rfl ?_
  refine WL.insert 0 rfl rfl rfl rfl rfl und128 Try.underlying3 rfl ?_
  refine WL.insert 0 rfl rfl rfl rfl rfl und128 Try.underlying3 rfl ?_
  refine WL.insert 0 rfl rfl rfl rfl rfl und128 Try.underlying3 rfl ?_
  refine WL.insert 0 rfl rfl rfl rfl rfl und128 Try.underlying3 rfl ?_
  repeat (first | refine WL.nil ?_ | with_reducible refine QE.then_n ?_ | refine WL.move _ rfl (by decide) rfl ?_ | refine WL.assign _ rfl (by decide) rfl ?_)
  refine WC.cut (σ := Unit) (fun _ => [(1, .map (some r))]) (fun _ => [.obj r (.map (tabE 0 (tab.take 17)).toArray 17)]) (fun _ => True) ?_ ?_
  · rintro _ _
    refine WC.cut (σ := Unit) (fun _ => [(1, .map (some r))]) (fun _ => [.obj r (.map (tabE 0 (tab.take 20)).toArray 20)]) (fun _ => True) ?_ ?_
    · rintro _ _
      repeat (first | refine WC.seq ?_ | refine WC.region ?_ | refine WC.ret ?_ | refine WL.move _ rfl (by decide) rfl ?_ | refine WL.assign _ rfl (by decide) rfl ?_)
      exact QE.ret1 _ _ rfl rfl (.refl _) ⟨r, rfl, rfl⟩
    · repeat (first | refine WC.seq ?_ | refine WC.region ?_)
      refine WL.buildS 3 3 1 [(0, .int .i64 14), (1, .int .i64 15), (2, .int .i64 17)] (i64s K2) rfl (by decide) rfl rfl rfl (fun w => by kernel_rfl) (fun gb => ?_)
      repeat (first | refine WC.block ?_ | refine WL.move _ rfl (by decide) rfl ?_ | refine WL.ln25 rfl (by decide) rfl ?_)
      refine WC.loop (σ := Nat) (fun i => [(19, .int .i64 i), (18, .int .i64 3), (17, .slice (some ⟨gb, 0, none⟩) 3 3), (1, .map (some r))]) (fun i => [.row (.slice (some ⟨gb, 0, none⟩) 3 3) 3 1 3 (i64s K2), .obj r (.map (tabE 0 (tab.take (17 + i))).toArray (17 + i))]) (fun i => i ≤ 3) (fun i => 3 - i) 0 (Nat.zero_le _) (.cons rfl (.cons rfl (.cons rfl (.cons rfl .nil)))) (.refl _) ?_
      intro i hi
      have hi' : i = 0 ∨ i = 1 ∨ i = 2 ∨ i = 3 := by omega
      rcases hi' with rfl | rfl | rfl | rfl
      · repeat (first | refine WC.seq ?_ | refine WC.region ?_ | refine WC.block ?_ | refine WC.skip ?_ | refine WC.cond_t rfl ?_ | refine WL.bin _ _ _ rfl (by decide) rfl rfl (fun _ => rfl) ?_)
        refine WL.idxr 0 3 1 3 3 .i64 (some ⟨gb, 0, none⟩) (0 : Nat) (i64s K2) rfl rfl (by decide) rfl rfl Try.underlying25 size3 (by decide) (by decide) (fun ad had => ?_)
        refine WL.le3 (v := .int .i64 14) rfl (by decide) rfl (fun w hI => row_cell hI (i := 0) rfl had rfl) ?_
        repeat (first | refine WC.region ?_ | refine WL.move _ rfl (by decide) rfl ?_ | refine WL.assign _ rfl (by decide) rfl ?_)
        refine WL.mapUpd 1 rfl rfl rfl rfl rfl und128 Try.underlying3 rfl ?_
        repeat (first | refine WC.region ?_ | refine WL.nil ?_ | refine WL.move _ rfl (by decide) rfl ?_ | refine WL.bin _ _ _ rfl (by decide) rfl rfl (fun _ => rfl) ?_)
        exact QE.round (0 + 1) (by decide) (by decide) (.cons rfl (.cons rfl (.cons rfl (.cons rfl .nil)))) (.refl _)
      · repeat (first | refine WC.seq ?_ | refine WC.region ?_ | refine WC.block ?_ | refine WC.skip ?_ | refine WC.cond_t rfl ?_ | refine WL.bin _ _ _ rfl (by decide) rfl rfl (fun _ => rfl) ?_)
        refine WL.idxr 0 3 1 3 3 .i64 (some ⟨gb, 0, none⟩) (1 : Nat) (i64s K2) rfl rfl (by decide) rfl rfl Try.underlying25 size3 (by decide) (by decide) (fun ad had => ?_)
        refine WL.le3 (v := .int .i64 15) rfl (by decide) rfl (fun w hI => row_cell hI (i := 0) rfl had rfl) ?_
        repeat (first | refine WC.region ?_ | refine WL.move _ rfl (by decide) rfl ?_ | refine WL.assign _ rfl (by decide) rfl ?_)
        refine WL.mapUpd 1 rfl rfl rfl rfl rfl und128 Try.underlying3 rfl ?_
        repeat (first | refine WC.region ?_ | refine WL.nil ?_ | refine WL.move _ rfl (by decide) rfl ?_ | refine WL.bin _ _ _ rfl (by decide) rfl rfl (fun _ => rfl) ?_)
        exact QE.round (1 + 1) (by decide) (by decide) (.cons rfl (.cons rfl (.cons rfl (.cons rfl .nil)))) (.refl _)
      · repeat (first | refine WC.seq ?_ | refine WC.region ?_ | refine WC.block ?_ | refine WC.skip ?_ | refine WC.cond_t rfl ?_ | refine WL.bin _ _ _ rfl (by decide) rfl rfl (fun _ => rfl) ?_)
        refine WL.idxr 0 3 1 3 3 .i64 (some ⟨gb, 0, none⟩) (2 : Nat) (i64s K2) rfl rfl (by decide) rfl rfl Try.underlying25 size3 (by decide) (by decide) (fun ad had => ?_)
        refine WL.le3 (v := .int .i64 17) rfl (by decide) rfl (fun w hI => row_cell hI (i := 0) rfl had rfl) ?_
        repeat (first | refine WC.region ?_ | refine WL.move _ rfl (by decide) rfl ?_ | refine WL.assign _ rfl (by decide) rfl ?_)
        refine WL.mapUpd 1 rfl rfl rfl rfl rfl und128 Try.underlying3 rfl ?_
        repeat (first | refine WC.region ?_ | refine WL.nil ?_ | refine WL.move _ rfl (by decide) rfl ?_ | refine WL.bin _ _ _ rfl (by decide) rfl rfl (fun _ => rfl) ?_)
        exact QE.round (2 + 1) (by decide) (by decide) (.cons rfl (.cons rfl (.cons rfl (.cons rfl .nil)))) (.refl _)
      · repeat (first | refine WC.seq ?_ | refine WC.region ?_ | refine WC.exit ?_ | with_reducible refine QE.then_e ?_ | with_reducible refine QE.blk_hit ?_ | refine WC.cond_f rfl ?_ | refine WL.bin _ _ _ rfl (by decide) rfl rfl (fun _ => rfl) ?_)
        exact QE.cut () trivial (.cons rfl .nil) (.cons _ (.refl _))
  · repeat (first | refine WC.seq ?_ | refine WC.region ?_)
    refine WL.buildS 9 3 1 [(0, .int .i64 4), (1, .int .i64 5), (2, .int .i64 6), (3, .int .i64 7), (4, .int .i64 8), (5, .int .i64 9), (6, .int .i64 11), (7, .int .i64 12), (8, .int .i64 20)] (i64s K1) rfl (by decide) rfl rfl rfl (fun w => by kernel_rfl) (fun gb => ?_)
    repeat (first | refine WC.block ?_ | refine WL.move _ rfl (by decide) rfl ?_ | refine WL.ln25 rfl (by decide) rfl ?_)
    refine WC.loop (σ := Nat) (fun i => [(10, .int .i64 i), (9, .int .i64 9), (8, .slice (some ⟨gb, 0, none⟩) 9 9), (1, .map (some r))]) (fun i => [.row (.slice (some ⟨gb, 0, none⟩) 9 9) 3 1 9 (i64s K1), .obj r (.map (tabE 0 (tab.take (8 + i))).toArray (8 + i))]) (fun i => i ≤ 9) (fun i => 9 - i) 0 (Nat.zero_le _) (.cons rfl (.cons rfl (.cons rfl (.cons rfl .nil)))) (.refl _) ?_
    intro i hi
    have hi' : i = 0 ∨ i = 1 ∨ i = 2 ∨ i = 3 ∨ i = 4 ∨ i = 5 ∨ i = 6 ∨ i = 7 ∨ i = 8 ∨ i = 9 := by omega
    rcases hi' with rfl | rfl | rfl | rfl | rfl | rfl | rfl | rfl | rfl | rfl
    · repeat (first | refine WC.seq ?_ | refine WC.region ?_ | refine WC.block ?_ | refine WC.skip ?_ | refine WC.cond_t rfl ?_ | refine WL.bin _ _ _ rfl (by decide) rfl rfl (fun _ => rfl) ?_)
      refine WL.idxr 0 3 1 9 9 .i64 (some ⟨gb, 0, none⟩) (0 : Nat) (i64s K1) rfl rfl (by decide) rfl rfl Try.underlying25 size3 (by decide) (by decide) (fun ad had => ?_)
      refine WL.le3 (v := .int .i64 4) rfl (by decide) rfl (fun w hI => row_cell hI (i := 0) rfl had rfl) ?_
      repeat (first | refine WC.region ?_ | refine WL.move _ rfl (by decide) rfl ?_ | refine WL.assign _ rfl (by decide) rfl ?_)
      refine WL.mapUpd 1 rfl rfl rfl rfl rfl und128 Try.underlying3 rfl ?_
      repeat (first | refine WC.region ?_ | refine WL.nil ?_ | refine WL.move _ rfl (by decide) rfl ?_ | refine WL.bin _ _ _ rfl (by decide) rfl rfl (fun _ => rfl) ?_)
      exact QE.round (0 + 1) (by decide) (by decide) (.cons rfl (.cons rfl (.cons rfl (.cons rfl .nil)))) (.refl _)
    · repeat (first | refine WC.seq ?_ | refine WC.region ?_ | refine WC.block ?_ | refine WC.skip ?_ | refine WC.cond_t rfl ?_ | refine WL.bin _ _ _ rfl (by decide) rfl rfl (fun _ => rfl) ?_)
      refine WL.idxr 0 3 1 9 9 .i64 (some ⟨gb, 0, none⟩) (1 : Nat) (i64s K1) rfl rfl (by decide) rfl rfl Try.underlying25 size3 (by decide) (by decide) (fun ad had => ?_)
      refine WL.le3 (v := .int .i64 5) rfl (by decide) rfl (fun w hI => row_cell hI (i := 0) rfl had rfl) ?_
      repeat (first | refine WC.region ?_ | refine WL.move _ rfl (by decide) rfl ?_ | refine WL.assign _ rfl (by decide) rfl ?_)
      refine WL.mapUpd 1 rfl rfl rfl rfl rfl und128 Try.underlying3 rfl ?_
      repeat (first | refine WC.region ?_ | refine WL.nil ?_ | refine WL.move _ rfl (by decide) rfl ?_ | refine WL.bin _ _ _ rfl (by decide) rfl rfl (fun _ => rfl) ?_)
      exact QE.round (1 + 1) (by decide) (by decide) (.cons rfl (.cons rfl (.cons rfl (.cons rfl .nil)))) (.refl _)
    · repeat (first | refine WC.seq ?_ | refine WC.region ?_ | refine WC.block ?_ | refine WC.skip ?_ | refine WC.cond_t rfl ?_ | refine WL.bin _ _ _ rfl (by decide) rfl rfl (fun _ => rfl) ?_)
      refine WL.idxr 0 3 1 9 9 .i64 (some ⟨gb, 0, none⟩) (2 : Nat) (i64s K1) rfl rfl (by decide) rfl rfl Try.underlying25 size3 (by decide) (by decide) (fun ad had => ?_)
      refine WL.le3 (v := .int .i64 6) rfl (by decide) rfl (fun w hI => row_cell hI (i := 0) rfl had rfl) ?_
      repeat (first | refine WC.region ?_ | refine WL.move _ rfl (by decide) rfl ?_ | refine WL.assign _ rfl (by decide) rfl ?_)
      refine WL.mapUpd 1 rfl rfl rfl rfl rfl und128 Try.underlying3 rfl ?_
      repeat (first | refine WC.region ?_ | refine WL.nil ?_ | refine WL.move _ rfl (by decide) rfl ?_ | refine WL.bin _ _ _ rfl (by decide) rfl rfl (fun _ => rfl) ?_)
      exact QE.round (2 + 1) (by decide) (by decide) (.cons rfl (.cons rfl (.cons rfl (.cons rfl .nil)))) (.refl _)
    · repeat (first | refine WC.seq ?_ | refine WC.region ?_ | refine WC.block ?_ | refine WC.skip ?_ | refine WC.cond_t rfl ?_ | refine WL.bin _ _ _ rfl (by decide) rfl rfl (fun _ => rfl) ?_)
      refine WL.idxr 0 3 1 9 9 .i64 (some ⟨gb, 0, none⟩) (3 : Nat) (i64s K1) rfl rfl (by decide) rfl rfl Try.underlying25 size3 (by decide) (by decide) (fun ad had => ?_)
      refine WL.le3 (v := .int .i64 7) rfl (by decide) rfl (fun w hI => row_cell hI (i := 0) rfl had rfl) ?_
      repeat (first | refine WC.region ?_ | refine WL.move _ rfl (by decide) rfl ?_ | refine WL.assign _ rfl (by decide) rfl ?_)
      refine WL.mapUpd 1 rfl rfl rfl rfl rfl und128 Try.underlying3 rfl ?_
      repeat (first | refine WC.region ?_ | refine WL.nil ?_ | refine WL.move _ rfl (by decide) rfl ?_ | refine WL.bin _ _ _ rfl (by decide) rfl rfl (fun _ => rfl) ?_)
      exact QE.round (3 + 1) (by decide) (by decide) (.cons rfl (.cons rfl (.cons rfl (.cons rfl .nil)))) (.refl _)
    · repeat (first | refine WC.seq ?_ | refine WC.region ?_ | refine WC.block ?_ | refine WC.skip ?_ | refine WC.cond_t rfl ?_ | refine WL.bin _ _ _ rfl (by decide) rfl rfl (fun _ => rfl) ?_)
      refine WL.idxr 0 3 1 9 9 .i64 (some ⟨gb, 0, none⟩) (4 : Nat) (i64s K1) rfl rfl (by decide) rfl rfl Try.underlying25 size3 (by decide) (by decide) (fun ad had => ?_)
      refine WL.le3 (v := .int .i64 8) rfl (by decide) rfl (fun w hI => row_cell hI (i := 0) rfl had rfl) ?_
      repeat (first | refine WC.region ?_ | refine WL.move _ rfl (by decide) rfl ?_ | refine WL.assign _ rfl (by decide) rfl ?_)
      refine WL.mapUpd 1 rfl rfl rfl rfl rfl und128 Try.underlying3 rfl ?_
      repeat (first | refine WC.region ?_ | refine WL.nil ?_ | refine WL.move _ rfl (by decide) rfl ?_ | refine WL.bin _ _ _ rfl (by decide) rfl rfl (fun _ => rfl) ?_)
      exact QE.round (4 + 1) (by decide) (by decide) (.cons rfl (.cons rfl (.cons rfl (.cons rfl .nil)))) (.refl _)
    · repeat (first | refine WC.seq ?_ | refine WC.region ?_ | refine WC.block ?_ | refine WC.skip ?_ | refine WC.cond_t rfl ?_ | refine WL.bin _ _ _ rfl (by decide) rfl rfl (fun _ => rfl) ?_)
      refine WL.idxr 0 3 1 9 9 .i64 (some ⟨gb, 0, none⟩) (5 : Nat) (i64s K1) rfl rfl (by decide) rfl rfl Try.underlying25 size3 (by decide) (by decide) (fun ad had => ?_)
      refine WL.le3 (v := .int .i64 9) rfl (by decide) rfl (fun w hI => row_cell hI (i := 0) rfl had rfl) ?_
      repeat (first | refine WC.region ?_ | refine WL.move _ rfl (by decide) rfl ?_ | refine WL.assign _ rfl (by decide) rfl ?_)
      refine WL.mapUpd 1 rfl rfl rfl rfl rfl und128 Try.underlying3 rfl ?_
      repeat (first | refine WC.region ?_ | refine WL.nil ?_ | refine WL.move _ rfl (by decide) rfl ?_ | refine WL.bin _ _ _ rfl (by decide) rfl rfl (fun _ => rfl) ?_)
      exact QE.round (5 + 1) (by decide) (by decide) (.cons rfl (.cons rfl (.cons rfl (.cons rfl .nil)))) (.refl _)
    · repeat (first | refine WC.seq ?_ | refine WC.region ?_ | refine WC.block ?_ | refine WC.skip ?_ | refine WC.cond_t rfl ?_ | refine WL.bin _ _ _ rfl (by decide) rfl rfl (fun _ => rfl) ?_)
      refine WL.idxr 0 3 1 9 9 .i64 (some ⟨gb, 0, none⟩) (6 : Nat) (i64s K1) rfl rfl (by decide) rfl rfl Try.underlying25 size3 (by decide) (by decide) (fun ad had => ?_)
      refine WL.le3 (v := .int .i64 11) rfl (by decide) rfl (fun w hI => row_cell hI (i := 0) rfl had rfl) ?_
      repeat (first | refine WC.region ?_ | refine WL.move _ rfl (by decide) rfl ?_ | refine WL.assign _ rfl (by decide) rfl ?_)
      refine WL.mapUpd 1 rfl rfl rfl rfl rfl und128 Try.underlying3 rfl ?_
      repeat (first | refine WC.region ?_ | refine WL.nil ?_ | refine WL.move _ rfl (by decide) rfl ?_ | refine WL.bin _ _ _ rfl (by decide) rfl rfl (fun _ => rfl) ?_)
      exact QE.round (6 + 1) (by decide) (by decide) (.cons rfl (.cons rfl (.cons rfl (.cons rfl .nil)))) (.refl _)
    · repeat (first | refine WC.seq ?_ | refine WC.region ?_ | refine WC.block ?_ | refine WC.skip ?_ | refine WC.cond_t rfl ?_ | refine WL.bin _ _ _ rfl (by decide) rfl rfl (fun _ => rfl) ?_)
      refine WL.idxr 0 3 1 9 9 .i64 (some ⟨gb, 0, none⟩) (7 : Nat) (i64s K1) rfl rfl (by decide) rfl rfl Try.underlying25 size3 (by decide) (by decide) (fun ad had => ?_)
      refine WL.le3 (v := .int .i64 12) rfl (by decide) rfl (fun w hI => row_cell hI (i := 0) rfl had rfl) ?_
      repeat (first | refine WC.region ?_ | refine WL.move _ rfl (by decide) rfl ?_ | refine WL.assign _ rfl (by decide) rfl ?_)
      refine WL.mapUpd 1 rfl rfl rfl rfl rfl und128 Try.underlying3 rfl ?_
      repeat (first | refine WC.region ?_ | refine WL.nil ?_ | refine WL.move _ rfl (by decide) rfl ?_ | refine WL.bin _ _ _ rfl (by decide) rfl rfl (fun _ => rfl) ?_)
      exact QE.round (7 + 1) (by decide) (by decide) (.cons rfl (.cons rfl (.cons rfl (.cons rfl .nil)))) (.refl _)
    · repeat (first | refine WC.seq ?_ | refine WC.region ?_ | refine WC.block ?_ | refine WC.skip ?_ | refine WC.cond_t rfl ?_ | refine WL.bin _ _ _ rfl (by decide) rfl rfl (fun _ => rfl) ?_)
      refine WL.idxr 0 3 1 9 9 .i64 (some ⟨gb, 0, none⟩) (8 : Nat) (i64s K1) rfl rfl (by decide) rfl rfl Try.underlying25 size3 (by decide) (by decide) (fun ad had => ?_)
      refine WL.le3 (v := .int .i64 20) rfl (by decide) rfl (fun w hI => row_cell hI (i := 0) rfl had rfl) ?_
      repeat (first | refine WC.region ?_ | refine WL.move _ rfl (by decide) rfl ?_ | refine WL.assign _ rfl (by decide) rfl ?_)
      refine WL.mapUpd 1 rfl rfl rfl rfl rfl und128 Try.underlying3 rfl ?_
      repeat (first | refine WC.region ?_ | refine WL.nil ?_ | refine WL.move _ rfl (by decide) rfl ?_ | refine WL.bin _ _ _ rfl (by decide) rfl rfl (fun _ => rfl) ?_)
      exact QE.round (8 + 1) (by decide) (by decide) (.cons rfl (.cons rfl (.cons rfl (.cons rfl .nil)))) (.refl _)
    · repeat (first | refine WC.seq ?_ | refine WC.region ?_ | refine WC.exit ?_ | with_reducible refine QE.then_e ?_ | with_reducible refine QE.blk_hit ?_ | refine WC.cond_f rfl ?_ | refine WL.bin _ _ _ rfl (by decide) rfl rfl (fun _ => rfl) ?_)
      exact QE.cut () trivial (.cons rfl .nil) (.cons _ (.refl _))
end Go.Proofs.Ytalafklnnohlgaa.Cod
