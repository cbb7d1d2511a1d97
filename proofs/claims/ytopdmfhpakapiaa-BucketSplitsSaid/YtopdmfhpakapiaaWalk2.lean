/- BucketWaits and BucketSplits: the call returns true and changes nothing that was there. Conditions: the structs' and numbers' fields fit int64. -/
import Derived.Test.YtopdmfhpakapiaaPure2
import Derived.OpenShut
namespace Go.Proofs.Ytopdmfhpakapiaa
open Go.RowKit
theorem BucketWaits_walk (c t : Int) (_ : (Lit.int .i64 c).wf = true) (_ : (Lit.int .i64 t).wf = true) (W : World) :
    Calls Try.prog 5 #[.agg #[.int .i64 c, .int .i64 t]] W fun e W' => e = .returned (.bool true) ∧ Below W.heap.size W W' := by
  obtain ⟨k, h⟩ := PAll.Waits_eq c t
  exact PAll.mainsheetlaw11_BucketWaits.calls k c t true W h
theorem BucketSplits_walk (c t s g n p : Int) (_ : (Lit.int .i64 c).wf = true) (_ : (Lit.int .i64 t).wf = true) (hs : (Lit.int .i64 s).wf = true) (hg : (Lit.int .i64 g).wf = true) (_ : (Lit.int .i64 n).wf = true) (_ : (Lit.int .i64 p).wf = true) (W : World) :
    Calls Try.prog 6 #[.agg #[.int .i64 c, .int .i64 t], .agg #[.int .i64 s, .int .i64 g, .int .i64 n], .int .i64 p] W fun e W' => e = .returned (.bool true) ∧ Below W.heap.size W W' := by
  obtain ⟨k, h⟩ := PAll.Splits_eq c t s g n p (bounds_i64 hs) (bounds_i64 hg)
  exact PAll.mainsheetlaw11_BucketSplits.calls k c t s g n p true W h
end Go.Proofs.Ytopdmfhpakapiaa
