/- BucketTells: the call returns true and changes nothing that was there. Conditions: the struct's fields fit int64. -/
import Derived.Test.YtopdmfhpakapiaaPure3
namespace Go.Proofs.Ytopdmfhpakapiaa
open Go.RowKit
theorem BucketTells_walk (c t : Int) (_ : (Lit.int .i64 c).wf = true) (_ : (Lit.int .i64 t).wf = true) (W : World) :
    Calls Try.prog 7 #[.agg #[.int .i64 c, .int .i64 t]] W fun e W' => e = .returned (.bool true) ∧ Below W.heap.size W W' := by
  obtain ⟨k, h⟩ := PAll.Tells_eq c t
  exact PAll.mainsheetlaw11_BucketTells.calls k c t true W h
end Go.Proofs.Ytopdmfhpakapiaa
