/- The references' Fields: the letters of a kind of calls, or of changes. No condition. -/
import Derived.Test.YtalafklnnohlgaaCod19
import Derived.Test.YtalafklnnohlgaaX15
namespace Go.Proofs.Ytalafklnnohlgaa.Cod
open Go.RowKit X Go.Proofs.YtalafklnnohlgaaW.PrintLast
open Oct hiding agg39 size39
set_option linter.unusedVariables false
set_option linter.unusedSimpArgs false

def callT : List (List Int) := [[], [100, 119, 99, 113], [100], [100, 109], [118], [118], [118], [118], [118], [118], [118, 110, 97], [118], [118], [112, 111], [112], [112], [112, 102], [112], [112, 118], [118, 112, 101, 97], [118]]
def liveT : List (List Int) := [[], [68, 87], [68, 67], [68, 80], [86, 77], [78], [71], [86], [80, 83], [80, 73], [85, 80]]
def strs (l : List (List Int)) : List Value := l.map (fun x => .string (strOfNums x))
/-- The letters of a kind and a sub-kind. -/
def fldL (k s : Int) : Option (List Int) :=
  if k = 1 ∧ 1 ≤ s ∧ s ≤ 20 then callT[s.toNat]? else if k = 2 ∧ 1 ≤ s ∧ s ≤ 10 then liveT[s.toNat]? else if k = 3 ∧ s = 0 then some [116] else none
theorem strs_at {T : List (List Int)} {j : Nat} {l : List Int} (h : T[j]? = some l) : (strs T)[0 + j * 1]? = some (.string (strOfNums l)) := by
  rw [Nat.zero_add, Nat.mul_one, strs, List.getElem?_map, h]; rfl
set_option maxHeartbeats 8000000 in
set_option maxRecDepth 100000 in
theorem fields_con (k s : Int) : Con Try.prog 72 #[.int .i64 k, .int .i64 s] [] (fun _ => True) (same (.tuple #[.string (strOfNums ((fldL k s).getD [])), .bool (fldL k s).isSome]) []) := by
  refine Con.intro Try.func72 rfl Try.ntmps72 rfl (fun w _ => ?_)
  repeat (first | refine WC.seq ?_ | refine WC.region ?_ | refine WL.assign _ rfl (by decide) rfl ?_)
  refine WL.build ((List.range 21).zip (strs callT)) (.agg (strs callT).toArray) rfl (by decide) rfl (fun w => by kernel_rfl) ?_
  refine WL.alloc (.agg (List.replicate 21 (.string (strOfNums []))).toArray) (List.replicate 21 (.string (strOfNums []))) rfl (by decide) (fun w => by kernel_rfl) rfl (fun g6 => ?_)
  refine WL.st139 0 (cs' := strs callT) rfl rfl rfl rfl rfl rfl rfl rfl rfl ?_
  repeat (first | refine WC.seq ?_ | refine WC.region ?_)
  refine WL.build ((List.range 11).zip (strs liveT)) (.agg (strs liveT).toArray) rfl (by decide) rfl (fun w => by kernel_rfl) ?_
  refine WL.alloc (.agg (List.replicate 11 (.string (strOfNums []))).toArray) (List.replicate 11 (.string (strOfNums []))) rfl (by decide) (fun w => by kernel_rfl) rfl (fun g7 => ?_)
  refine WL.st140 0 (cs' := strs liveT) rfl rfl rfl rfl rfl rfl rfl rfl rfl ?_
  repeat (first | refine WC.seq ?_ | refine WC.region ?_ | refine WC.block ?_ | refine WL.move _ rfl (by decide) rfl ?_ | refine WL.bin _ _ _ rfl (by decide) rfl rfl (fun _ => rfl) ?_)
  have hS : ∀ l, fldL k s = some l → Value.tuple #[.string (strOfNums l), .bool true] = .tuple #[.string (strOfNums ((fldL k s).getD [])), .bool (fldL k s).isSome] := fun l h => by rw [h]; rfl
  have hD : fldL k s = none → Value.tuple #[.string ⟨#[]⟩, .bool false] = .tuple #[.string (strOfNums ((fldL k s).getD [])), .bool (fldL k s).isSome] := fun h => by rw [h]; rfl
  refine WL.split 13 _ rfl (fun h1 => ?_) (fun h1 => ?_)
  · have h1 : k = 1 := by simpa using h1
    repeat (first | refine WL.move _ rfl (by decide) rfl ?_ | refine WL.bin _ _ _ rfl (by decide) rfl rfl (fun _ => rfl) ?_ | refine WL.pick _ _ rfl (by decide) rfl rfl ?_)
    refine WL.split 17 _ rfl (fun h2 => ?_) (fun h2 => ?_)
    · have h2 : s ≥ 1 := of_decide_eq_true h2
      repeat (first | refine WL.nil ?_ | with_reducible refine QE.then_n ?_ | refine WL.move _ rfl (by decide) rfl ?_ | refine WL.assign _ rfl (by decide) rfl ?_ | refine WL.bin _ _ _ rfl (by decide) rfl rfl (fun _ => rfl) ?_ | refine WL.pick _ _ rfl (by decide) rfl rfl ?_)
      refine WC.cond _ rfl (fun h3 => ?_) (fun h3 => ?_)
      · have h3 : s ≤ 20 := of_decide_eq_true h3
        obtain ⟨l, hl⟩ : ∃ l, callT[s.toNat]? = some l := ⟨_, List.getElem?_eq_getElem (by show s.toNat < 21; omega)⟩
        repeat (first | refine WC.seq ?_ | refine WC.region ?_ | refine WL.move _ rfl (by decide) rfl ?_)
        refine WL.idxA g6 0 21 9 1 .i64 s rfl (by decide) rfl rfl Try.underlying139 size9 (by omega) (by omega) ?_
        refine WL.ld9 1 rfl (by decide) rfl rfl (strs_at hl) ?_
        repeat (first | refine WC.ret ?_ | with_reducible refine QE.then_r ?_ | with_reducible refine QE.blk_r ?_ | refine WL.assign _ rfl (by decide) rfl ?_)
        exact QE.ret2 _ _ _ rfl rfl rfl (List.nil_sublist _) ⟨hS l (by unfold fldL; rw [if_pos (by omega)]; exact hl), rfl⟩
      · have h3 : ¬ s ≤ 20 := of_decide_eq_false h3
        repeat (first | refine WC.seq ?_ | refine WC.region ?_ | refine WL.move _ rfl (by decide) rfl ?_ | refine WL.bin _ _ _ rfl (by decide) rfl rfl (fun _ => rfl) ?_)
        refine WL.know (.bool false) (s := 27) rfl (congrArg Value.bool (by simp; omega)) ?_
        repeat (first | refine WC.seq ?_ | refine WC.region ?_ | refine WL.nil ?_ | with_reducible refine QE.then_n ?_ | refine WC.cond_f rfl ?_ | refine WL.move _ rfl (by decide) rfl ?_ | refine WL.assign _ rfl (by decide) rfl ?_ | refine WL.bin _ _ _ rfl (by decide) rfl rfl (fun _ => rfl) ?_ | refine WL.off rfl (by decide) ?_ | refine WL.pick _ _ rfl (by decide) rfl rfl ?_)
        refine WL.know (.bool false) (s := 41) rfl (congrArg Value.bool (by simp; omega)) ?_
        repeat (first | refine WC.seq ?_ | refine WC.region ?_ | refine WC.skip ?_ | refine WC.ret ?_ | refine WL.nil ?_ | with_reducible refine QE.then_n ?_ | refine WC.cond_f rfl ?_ | refine WL.assign _ rfl (by decide) rfl ?_ | refine WL.off rfl (by decide) ?_ | refine WL.pick _ _ rfl (by decide) rfl rfl ?_)
        exact QE.ret2 _ _ _ rfl rfl rfl (List.nil_sublist _) ⟨hD (by unfold fldL; rw [if_neg (by omega), if_neg (by omega), if_neg (by omega)]), rfl⟩
    · have h2 : ¬ s ≥ 1 := of_decide_eq_false h2
      repeat (first | refine WC.seq ?_ | refine WC.region ?_ | refine WL.nil ?_ | with_reducible refine QE.then_n ?_ | refine WC.cond_f rfl ?_ | refine WL.move _ rfl (by decide) rfl ?_ | refine WL.assign _ rfl (by decide) rfl ?_ | refine WL.bin _ _ _ rfl (by decide) rfl rfl (fun _ => rfl) ?_ | refine WL.off rfl (by decide) ?_ | refine WL.pick _ _ rfl (by decide) rfl rfl ?_)
      refine WL.know (.bool false) (s := 27) rfl (congrArg Value.bool (by simp; omega)) ?_
      repeat (first | refine WC.seq ?_ | refine WC.region ?_ | refine WL.nil ?_ | with_reducible refine QE.then_n ?_ | refine WC.cond_f rfl ?_ | refine WL.move _ rfl (by decide) rfl ?_ | refine WL.assign _ rfl (by decide) rfl ?_ | refine WL.bin _ _ _ rfl (by decide) rfl rfl (fun _ => rfl) ?_ | refine WL.off rfl (by decide) ?_ | refine WL.pick _ _ rfl (by decide) rfl rfl ?_)
      refine WL.know (.bool false) (s := 41) rfl (congrArg Value.bool (by simp; omega)) ?_
      repeat (first | refine WC.seq ?_ | refine WC.region ?_ | refine WC.skip ?_ | refine WC.ret ?_ | refine WL.nil ?_ | with_reducible refine QE.then_n ?_ | refine WC.cond_f rfl ?_ | refine WL.assign _ rfl (by decide) rfl ?_ | refine WL.off rfl (by decide) ?_ | refine WL.pick _ _ rfl (by decide) rfl rfl ?_)
      exact QE.ret2 _ _ _ rfl rfl rfl (List.nil_sublist _) ⟨hD (by unfold fldL; rw [if_neg (by omega), if_neg (by omega), if_neg (by omega)]), rfl⟩
  · have h1 : ¬ k = 1 := by simpa using h1
    repeat (first | refine WC.seq ?_ | refine WC.region ?_ | refine WL.nil ?_ | with_reducible refine QE.then_n ?_ | refine WC.cond_f rfl ?_ | refine WL.move _ rfl (by decide) rfl ?_ | refine WL.assign _ rfl (by decide) rfl ?_ | refine WL.bin _ _ _ rfl (by decide) rfl rfl (fun _ => rfl) ?_ | refine WL.off rfl (by decide) ?_ | refine WL.pick _ _ rfl (by decide) rfl rfl ?_)
    refine WL.split 27 _ rfl (fun h2 => ?_) (fun h2 => ?_)
    · have h2 : k = 2 := by simpa using h2
      repeat (first | refine WL.move _ rfl (by decide) rfl ?_ | refine WL.bin _ _ _ rfl (by decide) rfl rfl (fun _ => rfl) ?_ | refine WL.pick _ _ rfl (by decide) rfl rfl ?_)
      refine WL.split 31 _ rfl (fun h3 => ?_) (fun h3 => ?_)
      · have h3 : s ≥ 1 := of_decide_eq_true h3
        repeat (first | refine WL.nil ?_ | with_reducible refine QE.then_n ?_ | refine WL.move _ rfl (by decide) rfl ?_ | refine WL.assign _ rfl (by decide) rfl ?_ | refine WL.bin _ _ _ rfl (by decide) rfl rfl (fun _ => rfl) ?_ | refine WL.pick _ _ rfl (by decide) rfl rfl ?_)
        refine WC.cond _ rfl (fun h4 => ?_) (fun h4 => ?_)
        · have h4 : s ≤ 10 := of_decide_eq_true h4
          obtain ⟨l, hl⟩ : ∃ l, liveT[s.toNat]? = some l := ⟨_, List.getElem?_eq_getElem (by show s.toNat < 11; omega)⟩
          repeat (first | refine WC.seq ?_ | refine WC.region ?_ | refine WL.move _ rfl (by decide) rfl ?_)
          refine WL.idxA g7 0 11 9 1 .i64 s rfl (by decide) rfl rfl Try.underlying140 size9 (by omega) (by omega) ?_
          refine WL.ld9 0 rfl (by decide) rfl rfl (strs_at hl) ?_
          repeat (first | refine WC.ret ?_ | with_reducible refine QE.then_r ?_ | with_reducible refine QE.blk_r ?_ | refine WL.assign _ rfl (by decide) rfl ?_)
          exact QE.ret2 _ _ _ rfl rfl rfl (List.nil_sublist _) ⟨hS l (by unfold fldL; rw [if_neg (by omega)]; rw [if_pos (by omega)]; exact hl), rfl⟩
        · have h4 : ¬ s ≤ 10 := of_decide_eq_false h4
          repeat (first | refine WC.seq ?_ | refine WC.region ?_ | refine WL.move _ rfl (by decide) rfl ?_ | refine WL.bin _ _ _ rfl (by decide) rfl rfl (fun _ => rfl) ?_)
          refine WL.know (.bool false) (s := 41) rfl (congrArg Value.bool (by simp; omega)) ?_
          repeat (first | refine WC.seq ?_ | refine WC.region ?_ | refine WC.skip ?_ | refine WC.ret ?_ | refine WL.nil ?_ | with_reducible refine QE.then_n ?_ | refine WC.cond_f rfl ?_ | refine WL.assign _ rfl (by decide) rfl ?_ | refine WL.off rfl (by decide) ?_ | refine WL.pick _ _ rfl (by decide) rfl rfl ?_)
          exact QE.ret2 _ _ _ rfl rfl rfl (List.nil_sublist _) ⟨hD (by unfold fldL; rw [if_neg (by omega), if_neg (by omega), if_neg (by omega)]), rfl⟩
      · have h3 : ¬ s ≥ 1 := of_decide_eq_false h3
        repeat (first | refine WC.seq ?_ | refine WC.region ?_ | refine WL.nil ?_ | with_reducible refine QE.then_n ?_ | refine WC.cond_f rfl ?_ | refine WL.move _ rfl (by decide) rfl ?_ | refine WL.assign _ rfl (by decide) rfl ?_ | refine WL.bin _ _ _ rfl (by decide) rfl rfl (fun _ => rfl) ?_ | refine WL.off rfl (by decide) ?_ | refine WL.pick _ _ rfl (by decide) rfl rfl ?_)
        refine WL.know (.bool false) (s := 41) rfl (congrArg Value.bool (by simp; omega)) ?_
        repeat (first | refine WC.seq ?_ | refine WC.region ?_ | refine WC.skip ?_ | refine WC.ret ?_ | refine WL.nil ?_ | with_reducible refine QE.then_n ?_ | refine WC.cond_f rfl ?_ | refine WL.assign _ rfl (by decide) rfl ?_ | refine WL.off rfl (by decide) ?_ | refine WL.pick _ _ rfl (by decide) rfl rfl ?_)
        exact QE.ret2 _ _ _ rfl rfl rfl (List.nil_sublist _) ⟨hD (by unfold fldL; rw [if_neg (by omega), if_neg (by omega), if_neg (by omega)]), rfl⟩
    · have h2 : ¬ k = 2 := by simpa using h2
      repeat (first | refine WC.seq ?_ | refine WC.region ?_ | refine WL.nil ?_ | with_reducible refine QE.then_n ?_ | refine WC.cond_f rfl ?_ | refine WL.move _ rfl (by decide) rfl ?_ | refine WL.assign _ rfl (by decide) rfl ?_ | refine WL.bin _ _ _ rfl (by decide) rfl rfl (fun _ => rfl) ?_ | refine WL.off rfl (by decide) ?_ | refine WL.pick _ _ rfl (by decide) rfl rfl ?_)
      refine WL.split 41 _ rfl (fun h3 => ?_) (fun h3 => ?_)
      · have h3 : k = 3 := by simpa using h3
        repeat (first | refine WL.nil ?_ | with_reducible refine QE.then_n ?_ | refine WL.move _ rfl (by decide) rfl ?_ | refine WL.assign _ rfl (by decide) rfl ?_ | refine WL.bin _ _ _ rfl (by decide) rfl rfl (fun _ => rfl) ?_ | refine WL.pick _ _ rfl (by decide) rfl rfl ?_)
        refine WC.cond _ rfl (fun h4 => ?_) (fun h4 => ?_)
        · have h4 : s = 0 := by simpa using h4
          repeat (first | refine WC.seq ?_ | refine WC.region ?_ | refine WC.ret ?_ | with_reducible refine QE.then_r ?_ | with_reducible refine QE.blk_r ?_ | refine WL.assign _ rfl (by decide) rfl ?_)
          exact QE.ret2 _ _ _ rfl rfl rfl (List.nil_sublist _) ⟨hS [116] (by unfold fldL; rw [if_neg (by omega), if_neg (by omega), if_pos (by omega)]), rfl⟩
        · have h4 : ¬ s = 0 := by simpa using h4
          repeat (first | refine WC.seq ?_ | refine WC.region ?_ | refine WC.skip ?_ | refine WC.ret ?_ | refine WL.assign _ rfl (by decide) rfl ?_)
          exact QE.ret2 _ _ _ rfl rfl rfl (List.nil_sublist _) ⟨hD (by unfold fldL; rw [if_neg (by omega), if_neg (by omega), if_neg (by omega)]), rfl⟩
      · have h3 : ¬ k = 3 := by simpa using h3
        repeat (first | refine WC.seq ?_ | refine WC.region ?_ | refine WC.skip ?_ | refine WC.ret ?_ | refine WL.nil ?_ | with_reducible refine QE.then_n ?_ | refine WC.cond_f rfl ?_ | refine WL.assign _ rfl (by decide) rfl ?_ | refine WL.off rfl (by decide) ?_ | refine WL.pick _ _ rfl (by decide) rfl rfl ?_)
        exact QE.ret2 _ _ _ rfl rfl rfl (List.nil_sublist _) ⟨hD (by unfold fldL; rw [if_neg (by omega), if_neg (by omega), if_neg (by omega)]), rfl⟩
end Go.Proofs.Ytalafklnnohlgaa.Cod
