/-
  No cell of these rows narrows 'for every input' (looked for: loops, veiled, ifaces, maps, wideKeys, modest, calm, conditions, laid).
  DERIVED. THE GIVEN ROWS OF THIS SEAT. 6 by the template 'for every input the law returns true; each argument reads behind the call as it read before'; 0 by the template 'total and deterministic' (their statements: YtopdmfhpakapiaaTotals.lean).
  GIVEN WITH THE SEED: the statements are not yours to turn. If you find one false, say at which input.
  Laid BY PROGRAM, IN A SANDBOX (cutbox-rows.mjs): the forced cells as the released guide's own fill.sh prints them over the translation eef11e73fbb2002b… (all of the seat's roots in one cut). By AI agents, Wed Nov 11 2026. No macro, syntax, notation, axiom, sorry.
-/
import Derived.Test.YtopdmfhpakapiaaChecked
import GoSem.Claim
import GoSem.ClaimJoined
import GoSem.ClaimMapViews
import Derived.JoinedTies
import Derived.KernelRfl
namespace Go.Proofs.Ytopdmfhpakapiaa
/- THE CELL 'sum', in the pinned program and in every row, IS THE sha256 OF THE DUMP (.gsa) THAT YtopdmfhpakapiaaProg.lean LOADS. Nothing in Lean hashes anything: it is a label: what it is worth is what the hold of that sum in a sandbox is worth. -/
noncomputable def Try.pinned : Pinned := { name := "ytopdmfhpakapiaa", sum := "eef11e73fbb2002b797940e4a6457027c4d38b1803f39cd7ef58302d28ce6337", checked := Try.checked }
namespace Rows
def none {H : Type} : Left H := { results := [], args := [] }

/-- 'mainsheetlaw11.BucketPasses': WHATEVER THE INPUT: true; the input reads as it did. -/
def bucketPassesSpec : ChangeSpec := { name := "bucketPasses", fn := fun _ => fun
  | [d1, d2, d3] => { results := [.lit (.bool true)], args := [d1, d2, d3] }
  | _ => none }
def bucketPassesRow : OpenClaim := { program := "ytopdmfhpakapiaa", sum := "eef11e73fbb2002b797940e4a6457027c4d38b1803f39cd7ef58302d28ce6337", func := "mainsheet/mainsheetlaw11.BucketPasses", spec := "bucketPasses", unfollowed := true, recurses := true, apart := false }
def BucketPassesSaid : Prop := bucketPassesRow.holds Try.pinned (OpenSpec.ofChange bucketPassesSpec)

/-- ITS FALSE NEIGHBOUR: 'it returns false'. Refute it at one input. -/
def bucketPassesWrong : ChangeSpec := { name := "bucketPasses", fn := fun _ => fun
  | [d1, d2, d3] => { results := [.lit (.bool false)], args := [d1, d2, d3] }
  | _ => none }
def BucketPassesWrongFalsely : Prop := bucketPassesRow.holds Try.pinned (OpenSpec.ofChange bucketPassesWrong)

/-- 'mainsheetlaw11.BucketHolds': WHATEVER THE INPUT: true; the input reads as it did. -/
def bucketHoldsSpec : ChangeSpec := { name := "bucketHolds", fn := fun _ => fun
  | [d1, d2] => { results := [.lit (.bool true)], args := [d1, d2] }
  | _ => none }
def bucketHoldsRow : OpenClaim := { program := "ytopdmfhpakapiaa", sum := "eef11e73fbb2002b797940e4a6457027c4d38b1803f39cd7ef58302d28ce6337", func := "mainsheet/mainsheetlaw11.BucketHolds", spec := "bucketHolds", unfollowed := true, recurses := true, apart := false }
def BucketHoldsSaid : Prop := bucketHoldsRow.holds Try.pinned (OpenSpec.ofChange bucketHoldsSpec)

/-- ITS FALSE NEIGHBOUR: 'it returns false'. Refute it at one input. -/
def bucketHoldsWrong : ChangeSpec := { name := "bucketHolds", fn := fun _ => fun
  | [d1, d2] => { results := [.lit (.bool false)], args := [d1, d2] }
  | _ => none }
def BucketHoldsWrongFalsely : Prop := bucketHoldsRow.holds Try.pinned (OpenSpec.ofChange bucketHoldsWrong)

/-- 'mainsheetlaw11.BucketWaits': WHATEVER THE INPUT: true; the input reads as it did. -/
def bucketWaitsSpec : ChangeSpec := { name := "bucketWaits", fn := fun _ => fun
  | [d] => { results := [.lit (.bool true)], args := [d] }
  | _ => none }
def bucketWaitsRow : OpenClaim := { program := "ytopdmfhpakapiaa", sum := "eef11e73fbb2002b797940e4a6457027c4d38b1803f39cd7ef58302d28ce6337", func := "mainsheet/mainsheetlaw11.BucketWaits", spec := "bucketWaits", unfollowed := true, recurses := true, apart := false }
def BucketWaitsSaid : Prop := bucketWaitsRow.holds Try.pinned (OpenSpec.ofChange bucketWaitsSpec)

/-- ITS FALSE NEIGHBOUR: 'it returns false'. Refute it at one input. -/
def bucketWaitsWrong : ChangeSpec := { name := "bucketWaits", fn := fun _ => fun
  | [d] => { results := [.lit (.bool false)], args := [d] }
  | _ => none }
def BucketWaitsWrongFalsely : Prop := bucketWaitsRow.holds Try.pinned (OpenSpec.ofChange bucketWaitsWrong)

/-- 'mainsheetlaw11.BucketSplits': WHATEVER THE INPUT: true; the input reads as it did. -/
def bucketSplitsSpec : ChangeSpec := { name := "bucketSplits", fn := fun _ => fun
  | [d1, d2, d3] => { results := [.lit (.bool true)], args := [d1, d2, d3] }
  | _ => none }
def bucketSplitsRow : OpenClaim := { program := "ytopdmfhpakapiaa", sum := "eef11e73fbb2002b797940e4a6457027c4d38b1803f39cd7ef58302d28ce6337", func := "mainsheet/mainsheetlaw11.BucketSplits", spec := "bucketSplits", unfollowed := true, recurses := true, apart := false }
def BucketSplitsSaid : Prop := bucketSplitsRow.holds Try.pinned (OpenSpec.ofChange bucketSplitsSpec)

/-- ITS FALSE NEIGHBOUR: 'it returns false'. Refute it at one input. -/
def bucketSplitsWrong : ChangeSpec := { name := "bucketSplits", fn := fun _ => fun
  | [d1, d2, d3] => { results := [.lit (.bool false)], args := [d1, d2, d3] }
  | _ => none }
def BucketSplitsWrongFalsely : Prop := bucketSplitsRow.holds Try.pinned (OpenSpec.ofChange bucketSplitsWrong)

/-- 'mainsheetlaw11.BucketTells': WHATEVER THE INPUT: true; the input reads as it did. -/
def bucketTellsSpec : ChangeSpec := { name := "bucketTells", fn := fun _ => fun
  | [d] => { results := [.lit (.bool true)], args := [d] }
  | _ => none }
def bucketTellsRow : OpenClaim := { program := "ytopdmfhpakapiaa", sum := "eef11e73fbb2002b797940e4a6457027c4d38b1803f39cd7ef58302d28ce6337", func := "mainsheet/mainsheetlaw11.BucketTells", spec := "bucketTells", unfollowed := true, recurses := true, apart := false }
def BucketTellsSaid : Prop := bucketTellsRow.holds Try.pinned (OpenSpec.ofChange bucketTellsSpec)

/-- ITS FALSE NEIGHBOUR: 'it returns false'. Refute it at one input. -/
def bucketTellsWrong : ChangeSpec := { name := "bucketTells", fn := fun _ => fun
  | [d] => { results := [.lit (.bool false)], args := [d] }
  | _ => none }
def BucketTellsWrongFalsely : Prop := bucketTellsRow.holds Try.pinned (OpenSpec.ofChange bucketTellsWrong)

/-- 'mainsheetlaw11.BucketChanges': WHATEVER THE INPUT: true; the input reads as it did. -/
def bucketChangesSpec : ChangeSpec := { name := "bucketChanges", fn := fun _ => fun
  | [d1, d2, d3] => { results := [.lit (.bool true)], args := [d1, d2, d3] }
  | _ => none }
def bucketChangesRow : OpenClaim := { program := "ytopdmfhpakapiaa", sum := "eef11e73fbb2002b797940e4a6457027c4d38b1803f39cd7ef58302d28ce6337", func := "mainsheet/mainsheetlaw11.BucketChanges", spec := "bucketChanges", unfollowed := true, recurses := true, apart := false }
def BucketChangesSaid : Prop := bucketChangesRow.holds Try.pinned (OpenSpec.ofChange bucketChangesSpec)

/-- ITS FALSE NEIGHBOUR: 'it returns false'. Refute it at one input. -/
def bucketChangesWrong : ChangeSpec := { name := "bucketChanges", fn := fun _ => fun
  | [d1, d2, d3] => { results := [.lit (.bool false)], args := [d1, d2, d3] }
  | _ => none }
def BucketChangesWrongFalsely : Prop := bucketChangesRow.holds Try.pinned (OpenSpec.ofChange bucketChangesWrong)

/- THE SECOND FORM. 'bulk': how many values and letters a reading holds, each counted each time it is reached (what is shared counts as often as it is met; a slice's spare places count too). A statement '..UptoSaid' is the law's where the arguments, and the package variables that the reading takes, are together of bulk at most 1048576: NARROWER than '..Said'. Prove '..Said' where nothing that the law and all that it calls make is longer than what came in: it says more and counts as full. Else prove '..UptoSaid'. A law counts once. -/
mutual
def uptoBulk {H : Type} : DataW H → Nat
  | .lit (.string bytes) => bytes.length + 1
  | .lit _ => 1
  | .nil => 1
  | .ptr d => uptoBulk d + 1
  | .slice elems spare => uptoBulkAll elems + uptoBulkAll spare + 1
  | .agg parts => uptoBulkAll parts + 1
  | .iface _ d => uptoBulk d + 1
  | .map entries => uptoBulkEntries entries + 1
  | .held _ => 1
def uptoBulkAll {H : Type} : List (DataW H) → Nat
  | [] => 0
  | d :: r => uptoBulk d + uptoBulkAll r
def uptoBulkEntries {H : Type} : List (Lit × DataW H) → Nat
  | [] => 0
  | x :: r => uptoBulkEntry x + uptoBulkEntries r
def uptoBulkEntry {H : Type} : Lit × DataW H → Nat
  | (.string bytes, d) => bytes.length + uptoBulk d + 1
  | (_, d) => uptoBulk d + 1
 end
def uptoSmall : (H : Type) → List (DataW H) → Bool := fun _ ds => decide (uptoBulkAll ds ≤ 1048576)
def OpenSpec.upto (s : _root_.Go.ChangeSpec) : _root_.Go.OpenSpec := { _root_.Go.OpenSpec.ofChange s with cond := some uptoSmall }

/-- 'mainsheetlaw11.BucketPasses', WHERE WHAT IT READS IS OF BULK AT MOST 1048576: true; the input reads as it did. -/
def bucketPassesUptoRow : OpenClaim := { program := "ytopdmfhpakapiaa", sum := "eef11e73fbb2002b797940e4a6457027c4d38b1803f39cd7ef58302d28ce6337", func := "mainsheet/mainsheetlaw11.BucketPasses", spec := "bucketPasses", unfollowed := true, recurses := true, apart := false, narrowed := true }
def BucketPassesUptoSaid : Prop := bucketPassesUptoRow.holds Try.pinned (OpenSpec.upto bucketPassesSpec)

/-- 'mainsheetlaw11.BucketHolds', WHERE WHAT IT READS IS OF BULK AT MOST 1048576: true; the input reads as it did. -/
def bucketHoldsUptoRow : OpenClaim := { program := "ytopdmfhpakapiaa", sum := "eef11e73fbb2002b797940e4a6457027c4d38b1803f39cd7ef58302d28ce6337", func := "mainsheet/mainsheetlaw11.BucketHolds", spec := "bucketHolds", unfollowed := true, recurses := true, apart := false, narrowed := true }
def BucketHoldsUptoSaid : Prop := bucketHoldsUptoRow.holds Try.pinned (OpenSpec.upto bucketHoldsSpec)

/-- 'mainsheetlaw11.BucketWaits', WHERE WHAT IT READS IS OF BULK AT MOST 1048576: true; the input reads as it did. -/
def bucketWaitsUptoRow : OpenClaim := { program := "ytopdmfhpakapiaa", sum := "eef11e73fbb2002b797940e4a6457027c4d38b1803f39cd7ef58302d28ce6337", func := "mainsheet/mainsheetlaw11.BucketWaits", spec := "bucketWaits", unfollowed := true, recurses := true, apart := false, narrowed := true }
def BucketWaitsUptoSaid : Prop := bucketWaitsUptoRow.holds Try.pinned (OpenSpec.upto bucketWaitsSpec)

/-- 'mainsheetlaw11.BucketSplits', WHERE WHAT IT READS IS OF BULK AT MOST 1048576: true; the input reads as it did. -/
def bucketSplitsUptoRow : OpenClaim := { program := "ytopdmfhpakapiaa", sum := "eef11e73fbb2002b797940e4a6457027c4d38b1803f39cd7ef58302d28ce6337", func := "mainsheet/mainsheetlaw11.BucketSplits", spec := "bucketSplits", unfollowed := true, recurses := true, apart := false, narrowed := true }
def BucketSplitsUptoSaid : Prop := bucketSplitsUptoRow.holds Try.pinned (OpenSpec.upto bucketSplitsSpec)

/-- 'mainsheetlaw11.BucketTells', WHERE WHAT IT READS IS OF BULK AT MOST 1048576: true; the input reads as it did. -/
def bucketTellsUptoRow : OpenClaim := { program := "ytopdmfhpakapiaa", sum := "eef11e73fbb2002b797940e4a6457027c4d38b1803f39cd7ef58302d28ce6337", func := "mainsheet/mainsheetlaw11.BucketTells", spec := "bucketTells", unfollowed := true, recurses := true, apart := false, narrowed := true }
def BucketTellsUptoSaid : Prop := bucketTellsUptoRow.holds Try.pinned (OpenSpec.upto bucketTellsSpec)

/-- 'mainsheetlaw11.BucketChanges', WHERE WHAT IT READS IS OF BULK AT MOST 1048576: true; the input reads as it did. -/
def bucketChangesUptoRow : OpenClaim := { program := "ytopdmfhpakapiaa", sum := "eef11e73fbb2002b797940e4a6457027c4d38b1803f39cd7ef58302d28ce6337", func := "mainsheet/mainsheetlaw11.BucketChanges", spec := "bucketChanges", unfollowed := true, recurses := true, apart := false, narrowed := true }
def BucketChangesUptoSaid : Prop := bucketChangesUptoRow.holds Try.pinned (OpenSpec.upto bucketChangesSpec)

end Rows
end Go.Proofs.Ytopdmfhpakapiaa
