/- BucketTells comes to true. Conditions: the numbers fit int64. -/
import Derived.Test.YtopdmfhpakapiaaPAllx8
import Derived.Test.YtopdmfhpakapiaaPure2
namespace Go.Proofs.Ytopdmfhpakapiaa.PAll
open Go.RowKit Go.Proofs.YtopdmfhpakapiaaW.PrintWords Go.Proofs.YtopdmfhpakapiaaW.PrintLast Go.Proofs.YtopdmfhpakapiaaW.PrintMore

theorem Depth_eq (c t : Int) (k : Nat) (hk : 9 ≤ k) : bucket_Depth.f k c t = some (if Rt c t then c * 100000000 else 0) := by
  unfold bucket_Depth.f bucket_depth.f
  rw [Check_eq c t k hk]
  simp only [Option.bind_some]
  by_cases h : Rt c t
  · obtain ⟨c0, c1, t0, t1, hz⟩ := id h
    rw [if_pos h, if_pos h, if_pos rfl, wrap_in (by omega) (by omega)]
  · rw [if_neg h, if_neg h, if_neg (by decide)]

theorem Tells_eq (c t : Int) : ∃ k, mainsheetlaw11_BucketTells.f k c t = some true := by
  refine ⟨20, ?_⟩
  unfold mainsheetlaw11_BucketTells.f
  rw [wakes_eq _ (by omega), refRight_eq _ _ _ (by omega), Check_eq _ _ _ (by omega), Wait_eq _ _ _ (by omega), Depth_eq _ _ _ (by omega), Dry_eq _ _ _ (by omega)]
  unfold mainsheetref11_Dry.f mainsheetref11_Depth.f WaitR
  simp only [Option.bind_some, if_true]
  by_cases h : Rt c t
  · obtain ⟨c0, c1, t0, t1, hz⟩ := id h
    rw [if_pos (decide_eq_true h), if_pos h, if_pos h, if_pos h, wrap_in (by omega) (by omega)]
    simp only [if_true]
    by_cases hc : 0 < c
    · rw [if_pos (show c > 0 from hc)]
      simp only [Option.bind_some]
      by_cases ht : t ≤ 0
      · have hb := div_bd hc ht t0
        have d1 : dryB c t = true := decide_eq_true ⟨h, hc, ht⟩
        rw [d1, decide_eq_true ht, if_pos (show 0 < c ∧ t ≤ 0 from ⟨hc, ht⟩), if_neg (by decide)]
        simp only [mainsheetlaw11_BucketTells.j0]
        have m1 : c * (-t / c + 1) = c * (-t / c) + c := by rw [Int.mul_add, Int.mul_one]
        rw [if_neg (by decide), if_pos trivial, if_pos (by omega), wrap_in (x := -t / c + 1 - 1) (by omega) (by omega), wrap_in (x := c * (-t / c + 1)) (by omega) (by omega), wrap_in (x := t + _) (by omega) (by omega), if_pos (by omega)]
        have e : -t / c + 1 - 1 = -t / c := by omega
        rw [e, wrap_in (x := c * (-t / c)) (by omega) (by omega), wrap_in (x := t + _) (by omega) (by omega), decide_eq_true (by omega)]
      · have d1 : dryB c t = false := decide_eq_false (by omega)
        rw [d1, decide_eq_false ht, if_neg (show ¬ (0 < c ∧ t ≤ 0) by omega), if_neg (by decide)]
        simp only [mainsheetlaw11_BucketTells.j0]
        rfl
    · rw [if_neg (show ¬ c > 0 from hc)]
      simp only [Option.bind_some]
      have d1 : dryB c t = false := decide_eq_false (by omega)
      rw [d1, if_neg (show ¬ (0 < c ∧ t ≤ 0) by omega), if_neg (by decide)]
      simp only [mainsheetlaw11_BucketTells.j0]
      rfl
  · have d1 : dryB c t = false := decide_eq_false (fun x => h x.1)
    rw [if_neg (by simpa using h), if_neg h, if_neg h, if_neg h, d1]
    rfl
end Go.Proofs.Ytopdmfhpakapiaa.PAll
