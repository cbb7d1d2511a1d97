/- BucketPasses: the call returns true and changes nothing that was there. Conditions: the two structs' and numbers' fields fit int64. -/
import Derived.Test.YtopdmfhpakapiaaPure1
import Derived.Test.YtopdmfhpakapiaaPAllx5
namespace Go.Proofs.Ytopdmfhpakapiaa
open Go.RowKit
theorem BucketPasses_walk (c t dt n : Int) (_ : (Lit.int .i64 c).wf = true) (_ : (Lit.int .i64 t).wf = true) (_ : (Lit.int .i64 dt).wf = true) (_ : (Lit.int .i64 n).wf = true) (W : World) :
    Calls Try.prog 3 #[.agg #[.int .i64 c, .int .i64 t], .int .i64 dt, .int .i64 n] W fun e W' => e = .returned (.bool true) ∧ Below W.heap.size W W' := by
  obtain ⟨k, h⟩ := PAll.Passes_eq c t dt n
  exact PAll.mainsheetlaw11_BucketPasses.calls k c t dt n true W h
end Go.Proofs.Ytopdmfhpakapiaa
