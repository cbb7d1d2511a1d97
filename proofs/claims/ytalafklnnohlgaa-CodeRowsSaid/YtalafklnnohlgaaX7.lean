/- Closed facts on the program's types, and the rules with them filled in. No condition. -/
import Derived.Test.YtalafklnnohlgaaX6
import Derived.Test.YtalafklnnohlgaaProg
namespace Go.Proofs.Ytalafklnnohlgaa.X
open Go.RowKit
set_option linter.unusedVariables false
theorem agg2 : ∀ w, (isAgg 2).run Try.prog w = .ok false w := fun w => by kernel_rfl
theorem agg3 : ∀ w, (isAgg 3).run Try.prog w = .ok false w := fun w => by kernel_rfl
theorem agg4 : ∀ w, (isAgg 4).run Try.prog w = .ok false w := fun w => by kernel_rfl
theorem agg5 : ∀ w, (isAgg 5).run Try.prog w = .ok false w := fun w => by kernel_rfl
theorem agg9 : ∀ w, (isAgg 9).run Try.prog w = .ok false w := fun w => by kernel_rfl
theorem agg25 : ∀ w, (isAgg 25).run Try.prog w = .ok false w := fun w => by kernel_rfl
theorem agg27 : ∀ w, (isAgg 27).run Try.prog w = .ok true w := fun w => by kernel_rfl
theorem agg29 : ∀ w, (isAgg 29).run Try.prog w = .ok false w := fun w => by kernel_rfl
theorem agg31 : ∀ w, (isAgg 31).run Try.prog w = .ok true w := fun w => by kernel_rfl
theorem agg33 : ∀ w, (isAgg 33).run Try.prog w = .ok true w := fun w => by kernel_rfl
theorem agg35 : ∀ w, (isAgg 35).run Try.prog w = .ok true w := fun w => by kernel_rfl
theorem agg37 : ∀ w, (isAgg 37).run Try.prog w = .ok true w := fun w => by kernel_rfl
theorem agg39 : ∀ w, (isAgg 39).run Try.prog w = .ok false w := fun w => by kernel_rfl
theorem agg40 : ∀ w, (isAgg 40).run Try.prog w = .ok false w := fun w => by kernel_rfl
theorem agg53 : ∀ w, (isAgg 53).run Try.prog w = .ok false w := fun w => by kernel_rfl
theorem agg63 : ∀ w, (isAgg 63).run Try.prog w = .ok true w := fun w => by kernel_rfl
theorem agg68 : ∀ w, (isAgg 68).run Try.prog w = .ok false w := fun w => by kernel_rfl
theorem agg96 : ∀ w, (isAgg 96).run Try.prog w = .ok true w := fun w => by kernel_rfl
theorem agg126 : ∀ w, (isAgg 126).run Try.prog w = .ok false w := fun w => by kernel_rfl
theorem agg139 : ∀ w, (isAgg 139).run Try.prog w = .ok true w := fun w => by kernel_rfl
theorem agg140 : ∀ w, (isAgg 140).run Try.prog w = .ok true w := fun w => by kernel_rfl
theorem size2 : ∀ w, (sizeOf 2).run Try.prog w = .ok 1 w := fun w => by kernel_rfl
theorem size3 : ∀ w, (sizeOf 3).run Try.prog w = .ok 1 w := fun w => by kernel_rfl
theorem size4 : ∀ w, (sizeOf 4).run Try.prog w = .ok 1 w := fun w => by kernel_rfl
theorem size5 : ∀ w, (sizeOf 5).run Try.prog w = .ok 1 w := fun w => by kernel_rfl
theorem size9 : ∀ w, (sizeOf 9).run Try.prog w = .ok 1 w := fun w => by kernel_rfl
theorem size25 : ∀ w, (sizeOf 25).run Try.prog w = .ok 1 w := fun w => by kernel_rfl
theorem size27 : ∀ w, (sizeOf 27).run Try.prog w = .ok 4 w := fun w => by kernel_rfl
theorem size29 : ∀ w, (sizeOf 29).run Try.prog w = .ok 1 w := fun w => by kernel_rfl
theorem size31 : ∀ w, (sizeOf 31).run Try.prog w = .ok 2 w := fun w => by kernel_rfl
theorem size33 : ∀ w, (sizeOf 33).run Try.prog w = .ok 14 w := fun w => by kernel_rfl
theorem size35 : ∀ w, (sizeOf 35).run Try.prog w = .ok 13 w := fun w => by kernel_rfl
theorem size37 : ∀ w, (sizeOf 37).run Try.prog w = .ok 29 w := fun w => by kernel_rfl
theorem size39 : ∀ w, (sizeOf 39).run Try.prog w = .ok 1 w := fun w => by kernel_rfl
theorem size40 : ∀ w, (sizeOf 40).run Try.prog w = .ok 1 w := fun w => by kernel_rfl
theorem size53 : ∀ w, (sizeOf 53).run Try.prog w = .ok 1 w := fun w => by kernel_rfl
theorem size63 : ∀ w, (sizeOf 63).run Try.prog w = .ok 2 w := fun w => by kernel_rfl
theorem size68 : ∀ w, (sizeOf 68).run Try.prog w = .ok 1 w := fun w => by kernel_rfl
theorem size96 : ∀ w, (sizeOf 96).run Try.prog w = .ok 3 w := fun w => by kernel_rfl
theorem size126 : ∀ w, (sizeOf 126).run Try.prog w = .ok 1 w := fun w => by kernel_rfl
theorem size139 : ∀ w, (sizeOf 139).run Try.prog w = .ok 21 w := fun w => by kernel_rfl
theorem size140 : ∀ w, (sizeOf 140).run Try.prog w = .ok 11 w := fun w => by kernel_rfl
theorem fa27_0 (r j : Nat) : ∀ w, (Instr.fieldAt 27 (.pointer (some ⟨r, j, none⟩)) 0).run Try.prog w = .ok (.pointer (some ⟨r, j, none⟩)) w := fun w => by kernel_rfl
theorem fa27_1 (r j : Nat) : ∀ w, (Instr.fieldAt 27 (.pointer (some ⟨r, j, none⟩)) 1).run Try.prog w = .ok (.pointer (some ⟨r, j + 1, none⟩)) w := fun w => by kernel_rfl
theorem fa27_2 (r j : Nat) : ∀ w, (Instr.fieldAt 27 (.pointer (some ⟨r, j, none⟩)) 2).run Try.prog w = .ok (.pointer (some ⟨r, j + 2, none⟩)) w := fun w => by kernel_rfl
theorem fa27_3 (r j : Nat) : ∀ w, (Instr.fieldAt 27 (.pointer (some ⟨r, j, none⟩)) 3).run Try.prog w = .ok (.pointer (some ⟨r, j + 3, none⟩)) w := fun w => by kernel_rfl
theorem fa31_0 (r j : Nat) : ∀ w, (Instr.fieldAt 31 (.pointer (some ⟨r, j, none⟩)) 0).run Try.prog w = .ok (.pointer (some ⟨r, j, none⟩)) w := fun w => by kernel_rfl
theorem fa31_1 (r j : Nat) : ∀ w, (Instr.fieldAt 31 (.pointer (some ⟨r, j, none⟩)) 1).run Try.prog w = .ok (.pointer (some ⟨r, j + 1, none⟩)) w := fun w => by kernel_rfl
theorem fa33_0 (r j : Nat) : ∀ w, (Instr.fieldAt 33 (.pointer (some ⟨r, j, none⟩)) 0).run Try.prog w = .ok (.pointer (some ⟨r, j, none⟩)) w := fun w => by kernel_rfl
theorem fa33_1 (r j : Nat) : ∀ w, (Instr.fieldAt 33 (.pointer (some ⟨r, j, none⟩)) 1).run Try.prog w = .ok (.pointer (some ⟨r, j + 1, none⟩)) w := fun w => by kernel_rfl
theorem fa33_2 (r j : Nat) : ∀ w, (Instr.fieldAt 33 (.pointer (some ⟨r, j, none⟩)) 2).run Try.prog w = .ok (.pointer (some ⟨r, j + 2, none⟩)) w := fun w => by kernel_rfl
theorem fa33_3 (r j : Nat) : ∀ w, (Instr.fieldAt 33 (.pointer (some ⟨r, j, none⟩)) 3).run Try.prog w = .ok (.pointer (some ⟨r, j + 3, none⟩)) w := fun w => by kernel_rfl
theorem fa33_4 (r j : Nat) : ∀ w, (Instr.fieldAt 33 (.pointer (some ⟨r, j, none⟩)) 4).run Try.prog w = .ok (.pointer (some ⟨r, j + 4, none⟩)) w := fun w => by kernel_rfl
theorem fa33_5 (r j : Nat) : ∀ w, (Instr.fieldAt 33 (.pointer (some ⟨r, j, none⟩)) 5).run Try.prog w = .ok (.pointer (some ⟨r, j + 5, none⟩)) w := fun w => by kernel_rfl
theorem fa33_6 (r j : Nat) : ∀ w, (Instr.fieldAt 33 (.pointer (some ⟨r, j, none⟩)) 6).run Try.prog w = .ok (.pointer (some ⟨r, j + 6, none⟩)) w := fun w => by kernel_rfl
theorem fa33_7 (r j : Nat) : ∀ w, (Instr.fieldAt 33 (.pointer (some ⟨r, j, none⟩)) 7).run Try.prog w = .ok (.pointer (some ⟨r, j + 7, none⟩)) w := fun w => by kernel_rfl
theorem fa33_8 (r j : Nat) : ∀ w, (Instr.fieldAt 33 (.pointer (some ⟨r, j, none⟩)) 8).run Try.prog w = .ok (.pointer (some ⟨r, j + 8, none⟩)) w := fun w => by kernel_rfl
theorem fa33_9 (r j : Nat) : ∀ w, (Instr.fieldAt 33 (.pointer (some ⟨r, j, none⟩)) 9).run Try.prog w = .ok (.pointer (some ⟨r, j + 12, none⟩)) w := fun w => by kernel_rfl
theorem fa35_0 (r j : Nat) : ∀ w, (Instr.fieldAt 35 (.pointer (some ⟨r, j, none⟩)) 0).run Try.prog w = .ok (.pointer (some ⟨r, j, none⟩)) w := fun w => by kernel_rfl
theorem fa35_1 (r j : Nat) : ∀ w, (Instr.fieldAt 35 (.pointer (some ⟨r, j, none⟩)) 1).run Try.prog w = .ok (.pointer (some ⟨r, j + 1, none⟩)) w := fun w => by kernel_rfl
theorem fa35_2 (r j : Nat) : ∀ w, (Instr.fieldAt 35 (.pointer (some ⟨r, j, none⟩)) 2).run Try.prog w = .ok (.pointer (some ⟨r, j + 2, none⟩)) w := fun w => by kernel_rfl
theorem fa35_3 (r j : Nat) : ∀ w, (Instr.fieldAt 35 (.pointer (some ⟨r, j, none⟩)) 3).run Try.prog w = .ok (.pointer (some ⟨r, j + 3, none⟩)) w := fun w => by kernel_rfl
theorem fa35_4 (r j : Nat) : ∀ w, (Instr.fieldAt 35 (.pointer (some ⟨r, j, none⟩)) 4).run Try.prog w = .ok (.pointer (some ⟨r, j + 4, none⟩)) w := fun w => by kernel_rfl
theorem fa35_5 (r j : Nat) : ∀ w, (Instr.fieldAt 35 (.pointer (some ⟨r, j, none⟩)) 5).run Try.prog w = .ok (.pointer (some ⟨r, j + 5, none⟩)) w := fun w => by kernel_rfl
theorem fa35_6 (r j : Nat) : ∀ w, (Instr.fieldAt 35 (.pointer (some ⟨r, j, none⟩)) 6).run Try.prog w = .ok (.pointer (some ⟨r, j + 6, none⟩)) w := fun w => by kernel_rfl
theorem fa35_7 (r j : Nat) : ∀ w, (Instr.fieldAt 35 (.pointer (some ⟨r, j, none⟩)) 7).run Try.prog w = .ok (.pointer (some ⟨r, j + 7, none⟩)) w := fun w => by kernel_rfl
theorem fa35_8 (r j : Nat) : ∀ w, (Instr.fieldAt 35 (.pointer (some ⟨r, j, none⟩)) 8).run Try.prog w = .ok (.pointer (some ⟨r, j + 8, none⟩)) w := fun w => by kernel_rfl
theorem fa35_9 (r j : Nat) : ∀ w, (Instr.fieldAt 35 (.pointer (some ⟨r, j, none⟩)) 9).run Try.prog w = .ok (.pointer (some ⟨r, j + 9, none⟩)) w := fun w => by kernel_rfl
theorem fa35_10 (r j : Nat) : ∀ w, (Instr.fieldAt 35 (.pointer (some ⟨r, j, none⟩)) 10).run Try.prog w = .ok (.pointer (some ⟨r, j + 11, none⟩)) w := fun w => by kernel_rfl
theorem fa35_11 (r j : Nat) : ∀ w, (Instr.fieldAt 35 (.pointer (some ⟨r, j, none⟩)) 11).run Try.prog w = .ok (.pointer (some ⟨r, j + 12, none⟩)) w := fun w => by kernel_rfl
theorem fa37_0 (r j : Nat) : ∀ w, (Instr.fieldAt 37 (.pointer (some ⟨r, j, none⟩)) 0).run Try.prog w = .ok (.pointer (some ⟨r, j, none⟩)) w := fun w => by kernel_rfl
theorem fa37_1 (r j : Nat) : ∀ w, (Instr.fieldAt 37 (.pointer (some ⟨r, j, none⟩)) 1).run Try.prog w = .ok (.pointer (some ⟨r, j + 1, none⟩)) w := fun w => by kernel_rfl
theorem fa37_2 (r j : Nat) : ∀ w, (Instr.fieldAt 37 (.pointer (some ⟨r, j, none⟩)) 2).run Try.prog w = .ok (.pointer (some ⟨r, j + 15, none⟩)) w := fun w => by kernel_rfl
theorem fa37_3 (r j : Nat) : ∀ w, (Instr.fieldAt 37 (.pointer (some ⟨r, j, none⟩)) 3).run Try.prog w = .ok (.pointer (some ⟨r, j + 28, none⟩)) w := fun w => by kernel_rfl
theorem fa63_0 (r j : Nat) : ∀ w, (Instr.fieldAt 63 (.pointer (some ⟨r, j, none⟩)) 0).run Try.prog w = .ok (.pointer (some ⟨r, j, none⟩)) w := fun w => by kernel_rfl
theorem fa63_1 (r j : Nat) : ∀ w, (Instr.fieldAt 63 (.pointer (some ⟨r, j, none⟩)) 1).run Try.prog w = .ok (.pointer (some ⟨r, j + 1, none⟩)) w := fun w => by kernel_rfl
theorem fa96_0 (r j : Nat) : ∀ w, (Instr.fieldAt 96 (.pointer (some ⟨r, j, none⟩)) 0).run Try.prog w = .ok (.pointer (some ⟨r, j, none⟩)) w := fun w => by kernel_rfl
theorem fa96_1 (r j : Nat) : ∀ w, (Instr.fieldAt 96 (.pointer (some ⟨r, j, none⟩)) 1).run Try.prog w = .ok (.pointer (some ⟨r, j + 1, none⟩)) w := fun w => by kernel_rfl
theorem fa96_2 (r j : Nat) : ∀ w, (Instr.fieldAt 96 (.pointer (some ⟨r, j, none⟩)) 2).run Try.prog w = .ok (.pointer (some ⟨r, j + 2, none⟩)) w := fun w => by kernel_rfl
theorem fa101_0 (r j : Nat) : ∀ w, (Instr.fieldAt 101 (.pointer (some ⟨r, j, none⟩)) 0).run Try.prog w = .ok (.pointer (some ⟨r, j, none⟩)) w := fun w => by kernel_rfl
theorem fa101_1 (r j : Nat) : ∀ w, (Instr.fieldAt 101 (.pointer (some ⟨r, j, none⟩)) 1).run Try.prog w = .ok (.pointer (some ⟨r, j + 1, none⟩)) w := fun w => by kernel_rfl
theorem fa107_0 (r j : Nat) : ∀ w, (Instr.fieldAt 107 (.pointer (some ⟨r, j, none⟩)) 0).run Try.prog w = .ok (.pointer (some ⟨r, j, none⟩)) w := fun w => by kernel_rfl
theorem fa107_1 (r j : Nat) : ∀ w, (Instr.fieldAt 107 (.pointer (some ⟨r, j, none⟩)) 1).run Try.prog w = .ok (.pointer (some ⟨r, j + 1, none⟩)) w := fun w => by kernel_rfl
theorem fa109_0 (r j : Nat) : ∀ w, (Instr.fieldAt 109 (.pointer (some ⟨r, j, none⟩)) 0).run Try.prog w = .ok (.pointer (some ⟨r, j, none⟩)) w := fun w => by kernel_rfl
theorem fa109_1 (r j : Nat) : ∀ w, (Instr.fieldAt 109 (.pointer (some ⟨r, j, none⟩)) 1).run Try.prog w = .ok (.pointer (some ⟨r, j + 2, none⟩)) w := fun w => by kernel_rfl
section
variable {E : Env} {N : Nat} {m : List (Nat × Value)} {H : List Ck} {Q : Exit → Act → World → Prop} {ops : Array Oper} {rest : List Oper}
variable {ty t t2 : TypeId} {pos : String} {af : Array Edge} {g : Option (Nat × Bool)} {d : Nat} {x y : Operand}
theorem WL.fd27_0 {r j : Nat} (hw : Wd ops m g = some true) (hd : d < N) (hx : ev m x = some (.pointer (some ⟨r, j, none⟩))) (h : WL Try.prog E N ops Q ((d, .pointer (some ⟨r, j, none⟩)) :: m) H rest) : WL Try.prog E N ops Q m H (⟨some d, .fieldAddr 27 x 0, ty, pos, af, g⟩ :: rest) :=
  WL.faddr _ _ hw hd hx (fa27_0 r j) h
theorem WL.fd27_1 {r j : Nat} (hw : Wd ops m g = some true) (hd : d < N) (hx : ev m x = some (.pointer (some ⟨r, j, none⟩))) (h : WL Try.prog E N ops Q ((d, .pointer (some ⟨r, j + 1, none⟩)) :: m) H rest) : WL Try.prog E N ops Q m H (⟨some d, .fieldAddr 27 x 1, ty, pos, af, g⟩ :: rest) :=
  WL.faddr _ _ hw hd hx (fa27_1 r j) h
theorem WL.fd27_2 {r j : Nat} (hw : Wd ops m g = some true) (hd : d < N) (hx : ev m x = some (.pointer (some ⟨r, j, none⟩))) (h : WL Try.prog E N ops Q ((d, .pointer (some ⟨r, j + 2, none⟩)) :: m) H rest) : WL Try.prog E N ops Q m H (⟨some d, .fieldAddr 27 x 2, ty, pos, af, g⟩ :: rest) :=
  WL.faddr _ _ hw hd hx (fa27_2 r j) h
theorem WL.fd27_3 {r j : Nat} (hw : Wd ops m g = some true) (hd : d < N) (hx : ev m x = some (.pointer (some ⟨r, j, none⟩))) (h : WL Try.prog E N ops Q ((d, .pointer (some ⟨r, j + 3, none⟩)) :: m) H rest) : WL Try.prog E N ops Q m H (⟨some d, .fieldAddr 27 x 3, ty, pos, af, g⟩ :: rest) :=
  WL.faddr _ _ hw hd hx (fa27_3 r j) h
theorem WL.fd31_0 {r j : Nat} (hw : Wd ops m g = some true) (hd : d < N) (hx : ev m x = some (.pointer (some ⟨r, j, none⟩))) (h : WL Try.prog E N ops Q ((d, .pointer (some ⟨r, j, none⟩)) :: m) H rest) : WL Try.prog E N ops Q m H (⟨some d, .fieldAddr 31 x 0, ty, pos, af, g⟩ :: rest) :=
  WL.faddr _ _ hw hd hx (fa31_0 r j) h
theorem WL.fd31_1 {r j : Nat} (hw : Wd ops m g = some true) (hd : d < N) (hx : ev m x = some (.pointer (some ⟨r, j, none⟩))) (h : WL Try.prog E N ops Q ((d, .pointer (some ⟨r, j + 1, none⟩)) :: m) H rest) : WL Try.prog E N ops Q m H (⟨some d, .fieldAddr 31 x 1, ty, pos, af, g⟩ :: rest) :=
  WL.faddr _ _ hw hd hx (fa31_1 r j) h
theorem WL.fd33_0 {r j : Nat} (hw : Wd ops m g = some true) (hd : d < N) (hx : ev m x = some (.pointer (some ⟨r, j, none⟩))) (h : WL Try.prog E N ops Q ((d, .pointer (some ⟨r, j, none⟩)) :: m) H rest) : WL Try.prog E N ops Q m H (⟨some d, .fieldAddr 33 x 0, ty, pos, af, g⟩ :: rest) :=
  WL.faddr _ _ hw hd hx (fa33_0 r j) h
theorem WL.fd33_1 {r j : Nat} (hw : Wd ops m g = some true) (hd : d < N) (hx : ev m x = some (.pointer (some ⟨r, j, none⟩))) (h : WL Try.prog E N ops Q ((d, .pointer (some ⟨r, j + 1, none⟩)) :: m) H rest) : WL Try.prog E N ops Q m H (⟨some d, .fieldAddr 33 x 1, ty, pos, af, g⟩ :: rest) :=
  WL.faddr _ _ hw hd hx (fa33_1 r j) h
theorem WL.fd33_2 {r j : Nat} (hw : Wd ops m g = some true) (hd : d < N) (hx : ev m x = some (.pointer (some ⟨r, j, none⟩))) (h : WL Try.prog E N ops Q ((d, .pointer (some ⟨r, j + 2, none⟩)) :: m) H rest) : WL Try.prog E N ops Q m H (⟨some d, .fieldAddr 33 x 2, ty, pos, af, g⟩ :: rest) :=
  WL.faddr _ _ hw hd hx (fa33_2 r j) h
theorem WL.fd33_3 {r j : Nat} (hw : Wd ops m g = some true) (hd : d < N) (hx : ev m x = some (.pointer (some ⟨r, j, none⟩))) (h : WL Try.prog E N ops Q ((d, .pointer (some ⟨r, j + 3, none⟩)) :: m) H rest) : WL Try.prog E N ops Q m H (⟨some d, .fieldAddr 33 x 3, ty, pos, af, g⟩ :: rest) :=
  WL.faddr _ _ hw hd hx (fa33_3 r j) h
theorem WL.fd33_4 {r j : Nat} (hw : Wd ops m g = some true) (hd : d < N) (hx : ev m x = some (.pointer (some ⟨r, j, none⟩))) (h : WL Try.prog E N ops Q ((d, .pointer (some ⟨r, j + 4, none⟩)) :: m) H rest) : WL Try.prog E N ops Q m H (⟨some d, .fieldAddr 33 x 4, ty, pos, af, g⟩ :: rest) :=
  WL.faddr _ _ hw hd hx (fa33_4 r j) h
theorem WL.fd33_5 {r j : Nat} (hw : Wd ops m g = some true) (hd : d < N) (hx : ev m x = some (.pointer (some ⟨r, j, none⟩))) (h : WL Try.prog E N ops Q ((d, .pointer (some ⟨r, j + 5, none⟩)) :: m) H rest) : WL Try.prog E N ops Q m H (⟨some d, .fieldAddr 33 x 5, ty, pos, af, g⟩ :: rest) :=
  WL.faddr _ _ hw hd hx (fa33_5 r j) h
theorem WL.fd33_6 {r j : Nat} (hw : Wd ops m g = some true) (hd : d < N) (hx : ev m x = some (.pointer (some ⟨r, j, none⟩))) (h : WL Try.prog E N ops Q ((d, .pointer (some ⟨r, j + 6, none⟩)) :: m) H rest) : WL Try.prog E N ops Q m H (⟨some d, .fieldAddr 33 x 6, ty, pos, af, g⟩ :: rest) :=
  WL.faddr _ _ hw hd hx (fa33_6 r j) h
theorem WL.fd33_7 {r j : Nat} (hw : Wd ops m g = some true) (hd : d < N) (hx : ev m x = some (.pointer (some ⟨r, j, none⟩))) (h : WL Try.prog E N ops Q ((d, .pointer (some ⟨r, j + 7, none⟩)) :: m) H rest) : WL Try.prog E N ops Q m H (⟨some d, .fieldAddr 33 x 7, ty, pos, af, g⟩ :: rest) :=
  WL.faddr _ _ hw hd hx (fa33_7 r j) h
theorem WL.fd33_8 {r j : Nat} (hw : Wd ops m g = some true) (hd : d < N) (hx : ev m x = some (.pointer (some ⟨r, j, none⟩))) (h : WL Try.prog E N ops Q ((d, .pointer (some ⟨r, j + 8, none⟩)) :: m) H rest) : WL Try.prog E N ops Q m H (⟨some d, .fieldAddr 33 x 8, ty, pos, af, g⟩ :: rest) :=
  WL.faddr _ _ hw hd hx (fa33_8 r j) h
theorem WL.fd33_9 {r j : Nat} (hw : Wd ops m g = some true) (hd : d < N) (hx : ev m x = some (.pointer (some ⟨r, j, none⟩))) (h : WL Try.prog E N ops Q ((d, .pointer (some ⟨r, j + 12, none⟩)) :: m) H rest) : WL Try.prog E N ops Q m H (⟨some d, .fieldAddr 33 x 9, ty, pos, af, g⟩ :: rest) :=
  WL.faddr _ _ hw hd hx (fa33_9 r j) h
theorem WL.fd35_0 {r j : Nat} (hw : Wd ops m g = some true) (hd : d < N) (hx : ev m x = some (.pointer (some ⟨r, j, none⟩))) (h : WL Try.prog E N ops Q ((d, .pointer (some ⟨r, j, none⟩)) :: m) H rest) : WL Try.prog E N ops Q m H (⟨some d, .fieldAddr 35 x 0, ty, pos, af, g⟩ :: rest) :=
  WL.faddr _ _ hw hd hx (fa35_0 r j) h
theorem WL.fd35_1 {r j : Nat} (hw : Wd ops m g = some true) (hd : d < N) (hx : ev m x = some (.pointer (some ⟨r, j, none⟩))) (h : WL Try.prog E N ops Q ((d, .pointer (some ⟨r, j + 1, none⟩)) :: m) H rest) : WL Try.prog E N ops Q m H (⟨some d, .fieldAddr 35 x 1, ty, pos, af, g⟩ :: rest) :=
  WL.faddr _ _ hw hd hx (fa35_1 r j) h
theorem WL.fd35_2 {r j : Nat} (hw : Wd ops m g = some true) (hd : d < N) (hx : ev m x = some (.pointer (some ⟨r, j, none⟩))) (h : WL Try.prog E N ops Q ((d, .pointer (some ⟨r, j + 2, none⟩)) :: m) H rest) : WL Try.prog E N ops Q m H (⟨some d, .fieldAddr 35 x 2, ty, pos, af, g⟩ :: rest) :=
  WL.faddr _ _ hw hd hx (fa35_2 r j) h
theorem WL.fd35_3 {r j : Nat} (hw : Wd ops m g = some true) (hd : d < N) (hx : ev m x = some (.pointer (some ⟨r, j, none⟩))) (h : WL Try.prog E N ops Q ((d, .pointer (some ⟨r, j + 3, none⟩)) :: m) H rest) : WL Try.prog E N ops Q m H (⟨some d, .fieldAddr 35 x 3, ty, pos, af, g⟩ :: rest) :=
  WL.faddr _ _ hw hd hx (fa35_3 r j) h
theorem WL.fd35_4 {r j : Nat} (hw : Wd ops m g = some true) (hd : d < N) (hx : ev m x = some (.pointer (some ⟨r, j, none⟩))) (h : WL Try.prog E N ops Q ((d, .pointer (some ⟨r, j + 4, none⟩)) :: m) H rest) : WL Try.prog E N ops Q m H (⟨some d, .fieldAddr 35 x 4, ty, pos, af, g⟩ :: rest) :=
  WL.faddr _ _ hw hd hx (fa35_4 r j) h
theorem WL.fd35_5 {r j : Nat} (hw : Wd ops m g = some true) (hd : d < N) (hx : ev m x = some (.pointer (some ⟨r, j, none⟩))) (h : WL Try.prog E N ops Q ((d, .pointer (some ⟨r, j + 5, none⟩)) :: m) H rest) : WL Try.prog E N ops Q m H (⟨some d, .fieldAddr 35 x 5, ty, pos, af, g⟩ :: rest) :=
  WL.faddr _ _ hw hd hx (fa35_5 r j) h
theorem WL.fd35_6 {r j : Nat} (hw : Wd ops m g = some true) (hd : d < N) (hx : ev m x = some (.pointer (some ⟨r, j, none⟩))) (h : WL Try.prog E N ops Q ((d, .pointer (some ⟨r, j + 6, none⟩)) :: m) H rest) : WL Try.prog E N ops Q m H (⟨some d, .fieldAddr 35 x 6, ty, pos, af, g⟩ :: rest) :=
  WL.faddr _ _ hw hd hx (fa35_6 r j) h
theorem WL.fd35_7 {r j : Nat} (hw : Wd ops m g = some true) (hd : d < N) (hx : ev m x = some (.pointer (some ⟨r, j, none⟩))) (h : WL Try.prog E N ops Q ((d, .pointer (some ⟨r, j + 7, none⟩)) :: m) H rest) : WL Try.prog E N ops Q m H (⟨some d, .fieldAddr 35 x 7, ty, pos, af, g⟩ :: rest) :=
  WL.faddr _ _ hw hd hx (fa35_7 r j) h
theorem WL.fd35_8 {r j : Nat} (hw : Wd ops m g = some true) (hd : d < N) (hx : ev m x = some (.pointer (some ⟨r, j, none⟩))) (h : WL Try.prog E N ops Q ((d, .pointer (some ⟨r, j + 8, none⟩)) :: m) H rest) : WL Try.prog E N ops Q m H (⟨some d, .fieldAddr 35 x 8, ty, pos, af, g⟩ :: rest) :=
  WL.faddr _ _ hw hd hx (fa35_8 r j) h
theorem WL.fd35_9 {r j : Nat} (hw : Wd ops m g = some true) (hd : d < N) (hx : ev m x = some (.pointer (some ⟨r, j, none⟩))) (h : WL Try.prog E N ops Q ((d, .pointer (some ⟨r, j + 9, none⟩)) :: m) H rest) : WL Try.prog E N ops Q m H (⟨some d, .fieldAddr 35 x 9, ty, pos, af, g⟩ :: rest) :=
  WL.faddr _ _ hw hd hx (fa35_9 r j) h
theorem WL.fd35_10 {r j : Nat} (hw : Wd ops m g = some true) (hd : d < N) (hx : ev m x = some (.pointer (some ⟨r, j, none⟩))) (h : WL Try.prog E N ops Q ((d, .pointer (some ⟨r, j + 11, none⟩)) :: m) H rest) : WL Try.prog E N ops Q m H (⟨some d, .fieldAddr 35 x 10, ty, pos, af, g⟩ :: rest) :=
  WL.faddr _ _ hw hd hx (fa35_10 r j) h
theorem WL.fd35_11 {r j : Nat} (hw : Wd ops m g = some true) (hd : d < N) (hx : ev m x = some (.pointer (some ⟨r, j, none⟩))) (h : WL Try.prog E N ops Q ((d, .pointer (some ⟨r, j + 12, none⟩)) :: m) H rest) : WL Try.prog E N ops Q m H (⟨some d, .fieldAddr 35 x 11, ty, pos, af, g⟩ :: rest) :=
  WL.faddr _ _ hw hd hx (fa35_11 r j) h
theorem WL.fd37_0 {r j : Nat} (hw : Wd ops m g = some true) (hd : d < N) (hx : ev m x = some (.pointer (some ⟨r, j, none⟩))) (h : WL Try.prog E N ops Q ((d, .pointer (some ⟨r, j, none⟩)) :: m) H rest) : WL Try.prog E N ops Q m H (⟨some d, .fieldAddr 37 x 0, ty, pos, af, g⟩ :: rest) :=
  WL.faddr _ _ hw hd hx (fa37_0 r j) h
theorem WL.fd37_1 {r j : Nat} (hw : Wd ops m g = some true) (hd : d < N) (hx : ev m x = some (.pointer (some ⟨r, j, none⟩))) (h : WL Try.prog E N ops Q ((d, .pointer (some ⟨r, j + 1, none⟩)) :: m) H rest) : WL Try.prog E N ops Q m H (⟨some d, .fieldAddr 37 x 1, ty, pos, af, g⟩ :: rest) :=
  WL.faddr _ _ hw hd hx (fa37_1 r j) h
theorem WL.fd37_2 {r j : Nat} (hw : Wd ops m g = some true) (hd : d < N) (hx : ev m x = some (.pointer (some ⟨r, j, none⟩))) (h : WL Try.prog E N ops Q ((d, .pointer (some ⟨r, j + 15, none⟩)) :: m) H rest) : WL Try.prog E N ops Q m H (⟨some d, .fieldAddr 37 x 2, ty, pos, af, g⟩ :: rest) :=
  WL.faddr _ _ hw hd hx (fa37_2 r j) h
theorem WL.fd37_3 {r j : Nat} (hw : Wd ops m g = some true) (hd : d < N) (hx : ev m x = some (.pointer (some ⟨r, j, none⟩))) (h : WL Try.prog E N ops Q ((d, .pointer (some ⟨r, j + 28, none⟩)) :: m) H rest) : WL Try.prog E N ops Q m H (⟨some d, .fieldAddr 37 x 3, ty, pos, af, g⟩ :: rest) :=
  WL.faddr _ _ hw hd hx (fa37_3 r j) h
theorem WL.fd63_0 {r j : Nat} (hw : Wd ops m g = some true) (hd : d < N) (hx : ev m x = some (.pointer (some ⟨r, j, none⟩))) (h : WL Try.prog E N ops Q ((d, .pointer (some ⟨r, j, none⟩)) :: m) H rest) : WL Try.prog E N ops Q m H (⟨some d, .fieldAddr 63 x 0, ty, pos, af, g⟩ :: rest) :=
  WL.faddr _ _ hw hd hx (fa63_0 r j) h
theorem WL.fd63_1 {r j : Nat} (hw : Wd ops m g = some true) (hd : d < N) (hx : ev m x = some (.pointer (some ⟨r, j, none⟩))) (h : WL Try.prog E N ops Q ((d, .pointer (some ⟨r, j + 1, none⟩)) :: m) H rest) : WL Try.prog E N ops Q m H (⟨some d, .fieldAddr 63 x 1, ty, pos, af, g⟩ :: rest) :=
  WL.faddr _ _ hw hd hx (fa63_1 r j) h
theorem WL.fd96_0 {r j : Nat} (hw : Wd ops m g = some true) (hd : d < N) (hx : ev m x = some (.pointer (some ⟨r, j, none⟩))) (h : WL Try.prog E N ops Q ((d, .pointer (some ⟨r, j, none⟩)) :: m) H rest) : WL Try.prog E N ops Q m H (⟨some d, .fieldAddr 96 x 0, ty, pos, af, g⟩ :: rest) :=
  WL.faddr _ _ hw hd hx (fa96_0 r j) h
theorem WL.fd96_1 {r j : Nat} (hw : Wd ops m g = some true) (hd : d < N) (hx : ev m x = some (.pointer (some ⟨r, j, none⟩))) (h : WL Try.prog E N ops Q ((d, .pointer (some ⟨r, j + 1, none⟩)) :: m) H rest) : WL Try.prog E N ops Q m H (⟨some d, .fieldAddr 96 x 1, ty, pos, af, g⟩ :: rest) :=
  WL.faddr _ _ hw hd hx (fa96_1 r j) h
theorem WL.fd96_2 {r j : Nat} (hw : Wd ops m g = some true) (hd : d < N) (hx : ev m x = some (.pointer (some ⟨r, j, none⟩))) (h : WL Try.prog E N ops Q ((d, .pointer (some ⟨r, j + 2, none⟩)) :: m) H rest) : WL Try.prog E N ops Q m H (⟨some d, .fieldAddr 96 x 2, ty, pos, af, g⟩ :: rest) :=
  WL.faddr _ _ hw hd hx (fa96_2 r j) h
theorem WL.fd101_0 {r j : Nat} (hw : Wd ops m g = some true) (hd : d < N) (hx : ev m x = some (.pointer (some ⟨r, j, none⟩))) (h : WL Try.prog E N ops Q ((d, .pointer (some ⟨r, j, none⟩)) :: m) H rest) : WL Try.prog E N ops Q m H (⟨some d, .fieldAddr 101 x 0, ty, pos, af, g⟩ :: rest) :=
  WL.faddr _ _ hw hd hx (fa101_0 r j) h
theorem WL.fd101_1 {r j : Nat} (hw : Wd ops m g = some true) (hd : d < N) (hx : ev m x = some (.pointer (some ⟨r, j, none⟩))) (h : WL Try.prog E N ops Q ((d, .pointer (some ⟨r, j + 1, none⟩)) :: m) H rest) : WL Try.prog E N ops Q m H (⟨some d, .fieldAddr 101 x 1, ty, pos, af, g⟩ :: rest) :=
  WL.faddr _ _ hw hd hx (fa101_1 r j) h
theorem WL.fd107_0 {r j : Nat} (hw : Wd ops m g = some true) (hd : d < N) (hx : ev m x = some (.pointer (some ⟨r, j, none⟩))) (h : WL Try.prog E N ops Q ((d, .pointer (some ⟨r, j, none⟩)) :: m) H rest) : WL Try.prog E N ops Q m H (⟨some d, .fieldAddr 107 x 0, ty, pos, af, g⟩ :: rest) :=
  WL.faddr _ _ hw hd hx (fa107_0 r j) h
theorem WL.fd107_1 {r j : Nat} (hw : Wd ops m g = some true) (hd : d < N) (hx : ev m x = some (.pointer (some ⟨r, j, none⟩))) (h : WL Try.prog E N ops Q ((d, .pointer (some ⟨r, j + 1, none⟩)) :: m) H rest) : WL Try.prog E N ops Q m H (⟨some d, .fieldAddr 107 x 1, ty, pos, af, g⟩ :: rest) :=
  WL.faddr _ _ hw hd hx (fa107_1 r j) h
theorem WL.fd109_0 {r j : Nat} (hw : Wd ops m g = some true) (hd : d < N) (hx : ev m x = some (.pointer (some ⟨r, j, none⟩))) (h : WL Try.prog E N ops Q ((d, .pointer (some ⟨r, j, none⟩)) :: m) H rest) : WL Try.prog E N ops Q m H (⟨some d, .fieldAddr 109 x 0, ty, pos, af, g⟩ :: rest) :=
  WL.faddr _ _ hw hd hx (fa109_0 r j) h
theorem WL.fd109_1 {r j : Nat} (hw : Wd ops m g = some true) (hd : d < N) (hx : ev m x = some (.pointer (some ⟨r, j, none⟩))) (h : WL Try.prog E N ops Q ((d, .pointer (some ⟨r, j + 2, none⟩)) :: m) H rest) : WL Try.prog E N ops Q m H (⟨some d, .fieldAddr 109 x 1, ty, pos, af, g⟩ :: rest) :=
  WL.faddr _ _ hw hd hx (fa109_1 r j) h
theorem WL.ld2 (i : Nat) {gb j : Nat} {cs : List Value} {tb : TypeId} {v : Value} (hw : Wd ops m g = some true) (hd : d < N) (hx : ev m x = some (.pointer (some ⟨gb, j, none⟩))) (hi : H[i]? = some (.blk gb cs tb)) (hj : cs[j]? = some v) (h : WL Try.prog E N ops Q ((d, v) :: m) H rest) : WL Try.prog E N ops Q m H (⟨some d, .load 2 x, ty, pos, af, g⟩ :: rest) :=
  WL.load i gb j cs tb v hw hd hx agg2 hi hj h
theorem WL.le2 {ad : Addr} {v : Value} (hw : Wd ops m g = some true) (hd : d < N) (hx : ev m x = some (.pointer (some ad))) (hl : ∀ w, I E H w → w.cell? ad = some v) (h : WL Try.prog E N ops Q ((d, v) :: m) H rest) : WL Try.prog E N ops Q m H (⟨some d, .load 2 x, ty, pos, af, g⟩ :: rest) :=
  WL.load1 ad v hw hd hx agg2 hl h
theorem WL.ld3 (i : Nat) {gb j : Nat} {cs : List Value} {tb : TypeId} {v : Value} (hw : Wd ops m g = some true) (hd : d < N) (hx : ev m x = some (.pointer (some ⟨gb, j, none⟩))) (hi : H[i]? = some (.blk gb cs tb)) (hj : cs[j]? = some v) (h : WL Try.prog E N ops Q ((d, v) :: m) H rest) : WL Try.prog E N ops Q m H (⟨some d, .load 3 x, ty, pos, af, g⟩ :: rest) :=
  WL.load i gb j cs tb v hw hd hx agg3 hi hj h
theorem WL.le3 {ad : Addr} {v : Value} (hw : Wd ops m g = some true) (hd : d < N) (hx : ev m x = some (.pointer (some ad))) (hl : ∀ w, I E H w → w.cell? ad = some v) (h : WL Try.prog E N ops Q ((d, v) :: m) H rest) : WL Try.prog E N ops Q m H (⟨some d, .load 3 x, ty, pos, af, g⟩ :: rest) :=
  WL.load1 ad v hw hd hx agg3 hl h
theorem WL.ld4 (i : Nat) {gb j : Nat} {cs : List Value} {tb : TypeId} {v : Value} (hw : Wd ops m g = some true) (hd : d < N) (hx : ev m x = some (.pointer (some ⟨gb, j, none⟩))) (hi : H[i]? = some (.blk gb cs tb)) (hj : cs[j]? = some v) (h : WL Try.prog E N ops Q ((d, v) :: m) H rest) : WL Try.prog E N ops Q m H (⟨some d, .load 4 x, ty, pos, af, g⟩ :: rest) :=
  WL.load i gb j cs tb v hw hd hx agg4 hi hj h
theorem WL.le4 {ad : Addr} {v : Value} (hw : Wd ops m g = some true) (hd : d < N) (hx : ev m x = some (.pointer (some ad))) (hl : ∀ w, I E H w → w.cell? ad = some v) (h : WL Try.prog E N ops Q ((d, v) :: m) H rest) : WL Try.prog E N ops Q m H (⟨some d, .load 4 x, ty, pos, af, g⟩ :: rest) :=
  WL.load1 ad v hw hd hx agg4 hl h
theorem WL.ld5 (i : Nat) {gb j : Nat} {cs : List Value} {tb : TypeId} {v : Value} (hw : Wd ops m g = some true) (hd : d < N) (hx : ev m x = some (.pointer (some ⟨gb, j, none⟩))) (hi : H[i]? = some (.blk gb cs tb)) (hj : cs[j]? = some v) (h : WL Try.prog E N ops Q ((d, v) :: m) H rest) : WL Try.prog E N ops Q m H (⟨some d, .load 5 x, ty, pos, af, g⟩ :: rest) :=
  WL.load i gb j cs tb v hw hd hx agg5 hi hj h
theorem WL.le5 {ad : Addr} {v : Value} (hw : Wd ops m g = some true) (hd : d < N) (hx : ev m x = some (.pointer (some ad))) (hl : ∀ w, I E H w → w.cell? ad = some v) (h : WL Try.prog E N ops Q ((d, v) :: m) H rest) : WL Try.prog E N ops Q m H (⟨some d, .load 5 x, ty, pos, af, g⟩ :: rest) :=
  WL.load1 ad v hw hd hx agg5 hl h
theorem WL.ld9 (i : Nat) {gb j : Nat} {cs : List Value} {tb : TypeId} {v : Value} (hw : Wd ops m g = some true) (hd : d < N) (hx : ev m x = some (.pointer (some ⟨gb, j, none⟩))) (hi : H[i]? = some (.blk gb cs tb)) (hj : cs[j]? = some v) (h : WL Try.prog E N ops Q ((d, v) :: m) H rest) : WL Try.prog E N ops Q m H (⟨some d, .load 9 x, ty, pos, af, g⟩ :: rest) :=
  WL.load i gb j cs tb v hw hd hx agg9 hi hj h
theorem WL.le9 {ad : Addr} {v : Value} (hw : Wd ops m g = some true) (hd : d < N) (hx : ev m x = some (.pointer (some ad))) (hl : ∀ w, I E H w → w.cell? ad = some v) (h : WL Try.prog E N ops Q ((d, v) :: m) H rest) : WL Try.prog E N ops Q m H (⟨some d, .load 9 x, ty, pos, af, g⟩ :: rest) :=
  WL.load1 ad v hw hd hx agg9 hl h
theorem WL.ld25 (i : Nat) {gb j : Nat} {cs : List Value} {tb : TypeId} {v : Value} (hw : Wd ops m g = some true) (hd : d < N) (hx : ev m x = some (.pointer (some ⟨gb, j, none⟩))) (hi : H[i]? = some (.blk gb cs tb)) (hj : cs[j]? = some v) (h : WL Try.prog E N ops Q ((d, v) :: m) H rest) : WL Try.prog E N ops Q m H (⟨some d, .load 25 x, ty, pos, af, g⟩ :: rest) :=
  WL.load i gb j cs tb v hw hd hx agg25 hi hj h
theorem WL.le25 {ad : Addr} {v : Value} (hw : Wd ops m g = some true) (hd : d < N) (hx : ev m x = some (.pointer (some ad))) (hl : ∀ w, I E H w → w.cell? ad = some v) (h : WL Try.prog E N ops Q ((d, v) :: m) H rest) : WL Try.prog E N ops Q m H (⟨some d, .load 25 x, ty, pos, af, g⟩ :: rest) :=
  WL.load1 ad v hw hd hx agg25 hl h
theorem WL.ld27 (i : Nat) {gb j : Nat} {cs vs : List Value} {tb : TypeId} (hw : Wd ops m g = some true) (hd : d < N) (hx : ev m x = some (.pointer (some ⟨gb, j, none⟩))) (hi : H[i]? = some (.blk gb cs tb)) (hj : (cs.drop j).take 4 = vs) (hn : vs.length = 4) (h : WL Try.prog E N ops Q ((d, .agg vs.toArray) :: m) H rest) : WL Try.prog E N ops Q m H (⟨some d, .load 27 x, ty, pos, af, g⟩ :: rest) :=
  WL.loadA i gb j 4 cs vs tb hw hd hx agg27 size27 hi hj hn h
theorem WL.ld29 (i : Nat) {gb j : Nat} {cs : List Value} {tb : TypeId} {v : Value} (hw : Wd ops m g = some true) (hd : d < N) (hx : ev m x = some (.pointer (some ⟨gb, j, none⟩))) (hi : H[i]? = some (.blk gb cs tb)) (hj : cs[j]? = some v) (h : WL Try.prog E N ops Q ((d, v) :: m) H rest) : WL Try.prog E N ops Q m H (⟨some d, .load 29 x, ty, pos, af, g⟩ :: rest) :=
  WL.load i gb j cs tb v hw hd hx agg29 hi hj h
theorem WL.le29 {ad : Addr} {v : Value} (hw : Wd ops m g = some true) (hd : d < N) (hx : ev m x = some (.pointer (some ad))) (hl : ∀ w, I E H w → w.cell? ad = some v) (h : WL Try.prog E N ops Q ((d, v) :: m) H rest) : WL Try.prog E N ops Q m H (⟨some d, .load 29 x, ty, pos, af, g⟩ :: rest) :=
  WL.load1 ad v hw hd hx agg29 hl h
theorem WL.ld31 (i : Nat) {gb j : Nat} {cs vs : List Value} {tb : TypeId} (hw : Wd ops m g = some true) (hd : d < N) (hx : ev m x = some (.pointer (some ⟨gb, j, none⟩))) (hi : H[i]? = some (.blk gb cs tb)) (hj : (cs.drop j).take 2 = vs) (hn : vs.length = 2) (h : WL Try.prog E N ops Q ((d, .agg vs.toArray) :: m) H rest) : WL Try.prog E N ops Q m H (⟨some d, .load 31 x, ty, pos, af, g⟩ :: rest) :=
  WL.loadA i gb j 2 cs vs tb hw hd hx agg31 size31 hi hj hn h
theorem WL.ld33 (i : Nat) {gb j : Nat} {cs vs : List Value} {tb : TypeId} (hw : Wd ops m g = some true) (hd : d < N) (hx : ev m x = some (.pointer (some ⟨gb, j, none⟩))) (hi : H[i]? = some (.blk gb cs tb)) (hj : (cs.drop j).take 14 = vs) (hn : vs.length = 14) (h : WL Try.prog E N ops Q ((d, .agg vs.toArray) :: m) H rest) : WL Try.prog E N ops Q m H (⟨some d, .load 33 x, ty, pos, af, g⟩ :: rest) :=
  WL.loadA i gb j 14 cs vs tb hw hd hx agg33 size33 hi hj hn h
theorem WL.ld35 (i : Nat) {gb j : Nat} {cs vs : List Value} {tb : TypeId} (hw : Wd ops m g = some true) (hd : d < N) (hx : ev m x = some (.pointer (some ⟨gb, j, none⟩))) (hi : H[i]? = some (.blk gb cs tb)) (hj : (cs.drop j).take 13 = vs) (hn : vs.length = 13) (h : WL Try.prog E N ops Q ((d, .agg vs.toArray) :: m) H rest) : WL Try.prog E N ops Q m H (⟨some d, .load 35 x, ty, pos, af, g⟩ :: rest) :=
  WL.loadA i gb j 13 cs vs tb hw hd hx agg35 size35 hi hj hn h
theorem WL.ld37 (i : Nat) {gb j : Nat} {cs vs : List Value} {tb : TypeId} (hw : Wd ops m g = some true) (hd : d < N) (hx : ev m x = some (.pointer (some ⟨gb, j, none⟩))) (hi : H[i]? = some (.blk gb cs tb)) (hj : (cs.drop j).take 29 = vs) (hn : vs.length = 29) (h : WL Try.prog E N ops Q ((d, .agg vs.toArray) :: m) H rest) : WL Try.prog E N ops Q m H (⟨some d, .load 37 x, ty, pos, af, g⟩ :: rest) :=
  WL.loadA i gb j 29 cs vs tb hw hd hx agg37 size37 hi hj hn h
theorem WL.ld39 (i : Nat) {gb j : Nat} {cs : List Value} {tb : TypeId} {v : Value} (hw : Wd ops m g = some true) (hd : d < N) (hx : ev m x = some (.pointer (some ⟨gb, j, none⟩))) (hi : H[i]? = some (.blk gb cs tb)) (hj : cs[j]? = some v) (h : WL Try.prog E N ops Q ((d, v) :: m) H rest) : WL Try.prog E N ops Q m H (⟨some d, .load 39 x, ty, pos, af, g⟩ :: rest) :=
  WL.load i gb j cs tb v hw hd hx agg39 hi hj h
theorem WL.le39 {ad : Addr} {v : Value} (hw : Wd ops m g = some true) (hd : d < N) (hx : ev m x = some (.pointer (some ad))) (hl : ∀ w, I E H w → w.cell? ad = some v) (h : WL Try.prog E N ops Q ((d, v) :: m) H rest) : WL Try.prog E N ops Q m H (⟨some d, .load 39 x, ty, pos, af, g⟩ :: rest) :=
  WL.load1 ad v hw hd hx agg39 hl h
theorem WL.ld40 (i : Nat) {gb j : Nat} {cs : List Value} {tb : TypeId} {v : Value} (hw : Wd ops m g = some true) (hd : d < N) (hx : ev m x = some (.pointer (some ⟨gb, j, none⟩))) (hi : H[i]? = some (.blk gb cs tb)) (hj : cs[j]? = some v) (h : WL Try.prog E N ops Q ((d, v) :: m) H rest) : WL Try.prog E N ops Q m H (⟨some d, .load 40 x, ty, pos, af, g⟩ :: rest) :=
  WL.load i gb j cs tb v hw hd hx agg40 hi hj h
theorem WL.le40 {ad : Addr} {v : Value} (hw : Wd ops m g = some true) (hd : d < N) (hx : ev m x = some (.pointer (some ad))) (hl : ∀ w, I E H w → w.cell? ad = some v) (h : WL Try.prog E N ops Q ((d, v) :: m) H rest) : WL Try.prog E N ops Q m H (⟨some d, .load 40 x, ty, pos, af, g⟩ :: rest) :=
  WL.load1 ad v hw hd hx agg40 hl h
theorem WL.ld53 (i : Nat) {gb j : Nat} {cs : List Value} {tb : TypeId} {v : Value} (hw : Wd ops m g = some true) (hd : d < N) (hx : ev m x = some (.pointer (some ⟨gb, j, none⟩))) (hi : H[i]? = some (.blk gb cs tb)) (hj : cs[j]? = some v) (h : WL Try.prog E N ops Q ((d, v) :: m) H rest) : WL Try.prog E N ops Q m H (⟨some d, .load 53 x, ty, pos, af, g⟩ :: rest) :=
  WL.load i gb j cs tb v hw hd hx agg53 hi hj h
theorem WL.le53 {ad : Addr} {v : Value} (hw : Wd ops m g = some true) (hd : d < N) (hx : ev m x = some (.pointer (some ad))) (hl : ∀ w, I E H w → w.cell? ad = some v) (h : WL Try.prog E N ops Q ((d, v) :: m) H rest) : WL Try.prog E N ops Q m H (⟨some d, .load 53 x, ty, pos, af, g⟩ :: rest) :=
  WL.load1 ad v hw hd hx agg53 hl h
theorem WL.ld63 (i : Nat) {gb j : Nat} {cs vs : List Value} {tb : TypeId} (hw : Wd ops m g = some true) (hd : d < N) (hx : ev m x = some (.pointer (some ⟨gb, j, none⟩))) (hi : H[i]? = some (.blk gb cs tb)) (hj : (cs.drop j).take 2 = vs) (hn : vs.length = 2) (h : WL Try.prog E N ops Q ((d, .agg vs.toArray) :: m) H rest) : WL Try.prog E N ops Q m H (⟨some d, .load 63 x, ty, pos, af, g⟩ :: rest) :=
  WL.loadA i gb j 2 cs vs tb hw hd hx agg63 size63 hi hj hn h
theorem WL.ld68 (i : Nat) {gb j : Nat} {cs : List Value} {tb : TypeId} {v : Value} (hw : Wd ops m g = some true) (hd : d < N) (hx : ev m x = some (.pointer (some ⟨gb, j, none⟩))) (hi : H[i]? = some (.blk gb cs tb)) (hj : cs[j]? = some v) (h : WL Try.prog E N ops Q ((d, v) :: m) H rest) : WL Try.prog E N ops Q m H (⟨some d, .load 68 x, ty, pos, af, g⟩ :: rest) :=
  WL.load i gb j cs tb v hw hd hx agg68 hi hj h
theorem WL.le68 {ad : Addr} {v : Value} (hw : Wd ops m g = some true) (hd : d < N) (hx : ev m x = some (.pointer (some ad))) (hl : ∀ w, I E H w → w.cell? ad = some v) (h : WL Try.prog E N ops Q ((d, v) :: m) H rest) : WL Try.prog E N ops Q m H (⟨some d, .load 68 x, ty, pos, af, g⟩ :: rest) :=
  WL.load1 ad v hw hd hx agg68 hl h
theorem WL.ld126 (i : Nat) {gb j : Nat} {cs : List Value} {tb : TypeId} {v : Value} (hw : Wd ops m g = some true) (hd : d < N) (hx : ev m x = some (.pointer (some ⟨gb, j, none⟩))) (hi : H[i]? = some (.blk gb cs tb)) (hj : cs[j]? = some v) (h : WL Try.prog E N ops Q ((d, v) :: m) H rest) : WL Try.prog E N ops Q m H (⟨some d, .load 126 x, ty, pos, af, g⟩ :: rest) :=
  WL.load i gb j cs tb v hw hd hx agg126 hi hj h
theorem WL.le126 {ad : Addr} {v : Value} (hw : Wd ops m g = some true) (hd : d < N) (hx : ev m x = some (.pointer (some ad))) (hl : ∀ w, I E H w → w.cell? ad = some v) (h : WL Try.prog E N ops Q ((d, v) :: m) H rest) : WL Try.prog E N ops Q m H (⟨some d, .load 126 x, ty, pos, af, g⟩ :: rest) :=
  WL.load1 ad v hw hd hx agg126 hl h
theorem WL.st2 (i : Nat) {gb j : Nat} {cs vs cs' : List Value} {tb : TypeId} {v : Value} (hw : Wd ops m g = some true) (hx : ev m x = some (.pointer (some ⟨gb, j, none⟩))) (hy : ev m y = some v) (hi : H[i]? = some (.blk gb cs tb)) (hv : v.cells.toList = vs) (hn : vs.length = 1) (h1 : vs.all (·.oneCell') = true) (hj : Nat.ble (j + vs.length) cs.length = true) (hp : putc cs j vs = cs') (h : WL Try.prog E N ops Q m (H.set i (.blk gb cs' tb)) rest) : WL Try.prog E N ops Q m H (⟨none, .store 2 x y, ty, pos, af, g⟩ :: rest) :=
  WL.store i gb j cs vs cs' tb v hw hx hy hi hv (hn ▸ size2) h1 hj hp h
theorem WL.st3 (i : Nat) {gb j : Nat} {cs vs cs' : List Value} {tb : TypeId} {v : Value} (hw : Wd ops m g = some true) (hx : ev m x = some (.pointer (some ⟨gb, j, none⟩))) (hy : ev m y = some v) (hi : H[i]? = some (.blk gb cs tb)) (hv : v.cells.toList = vs) (hn : vs.length = 1) (h1 : vs.all (·.oneCell') = true) (hj : Nat.ble (j + vs.length) cs.length = true) (hp : putc cs j vs = cs') (h : WL Try.prog E N ops Q m (H.set i (.blk gb cs' tb)) rest) : WL Try.prog E N ops Q m H (⟨none, .store 3 x y, ty, pos, af, g⟩ :: rest) :=
  WL.store i gb j cs vs cs' tb v hw hx hy hi hv (hn ▸ size3) h1 hj hp h
theorem WL.st4 (i : Nat) {gb j : Nat} {cs vs cs' : List Value} {tb : TypeId} {v : Value} (hw : Wd ops m g = some true) (hx : ev m x = some (.pointer (some ⟨gb, j, none⟩))) (hy : ev m y = some v) (hi : H[i]? = some (.blk gb cs tb)) (hv : v.cells.toList = vs) (hn : vs.length = 1) (h1 : vs.all (·.oneCell') = true) (hj : Nat.ble (j + vs.length) cs.length = true) (hp : putc cs j vs = cs') (h : WL Try.prog E N ops Q m (H.set i (.blk gb cs' tb)) rest) : WL Try.prog E N ops Q m H (⟨none, .store 4 x y, ty, pos, af, g⟩ :: rest) :=
  WL.store i gb j cs vs cs' tb v hw hx hy hi hv (hn ▸ size4) h1 hj hp h
theorem WL.st5 (i : Nat) {gb j : Nat} {cs vs cs' : List Value} {tb : TypeId} {v : Value} (hw : Wd ops m g = some true) (hx : ev m x = some (.pointer (some ⟨gb, j, none⟩))) (hy : ev m y = some v) (hi : H[i]? = some (.blk gb cs tb)) (hv : v.cells.toList = vs) (hn : vs.length = 1) (h1 : vs.all (·.oneCell') = true) (hj : Nat.ble (j + vs.length) cs.length = true) (hp : putc cs j vs = cs') (h : WL Try.prog E N ops Q m (H.set i (.blk gb cs' tb)) rest) : WL Try.prog E N ops Q m H (⟨none, .store 5 x y, ty, pos, af, g⟩ :: rest) :=
  WL.store i gb j cs vs cs' tb v hw hx hy hi hv (hn ▸ size5) h1 hj hp h
theorem WL.st25 (i : Nat) {gb j : Nat} {cs vs cs' : List Value} {tb : TypeId} {v : Value} (hw : Wd ops m g = some true) (hx : ev m x = some (.pointer (some ⟨gb, j, none⟩))) (hy : ev m y = some v) (hi : H[i]? = some (.blk gb cs tb)) (hv : v.cells.toList = vs) (hn : vs.length = 1) (h1 : vs.all (·.oneCell') = true) (hj : Nat.ble (j + vs.length) cs.length = true) (hp : putc cs j vs = cs') (h : WL Try.prog E N ops Q m (H.set i (.blk gb cs' tb)) rest) : WL Try.prog E N ops Q m H (⟨none, .store 25 x y, ty, pos, af, g⟩ :: rest) :=
  WL.store i gb j cs vs cs' tb v hw hx hy hi hv (hn ▸ size25) h1 hj hp h
theorem WL.st29 (i : Nat) {gb j : Nat} {cs vs cs' : List Value} {tb : TypeId} {v : Value} (hw : Wd ops m g = some true) (hx : ev m x = some (.pointer (some ⟨gb, j, none⟩))) (hy : ev m y = some v) (hi : H[i]? = some (.blk gb cs tb)) (hv : v.cells.toList = vs) (hn : vs.length = 1) (h1 : vs.all (·.oneCell') = true) (hj : Nat.ble (j + vs.length) cs.length = true) (hp : putc cs j vs = cs') (h : WL Try.prog E N ops Q m (H.set i (.blk gb cs' tb)) rest) : WL Try.prog E N ops Q m H (⟨none, .store 29 x y, ty, pos, af, g⟩ :: rest) :=
  WL.store i gb j cs vs cs' tb v hw hx hy hi hv (hn ▸ size29) h1 hj hp h
theorem WL.st31 (i : Nat) {gb j : Nat} {cs vs cs' : List Value} {tb : TypeId} {v : Value} (hw : Wd ops m g = some true) (hx : ev m x = some (.pointer (some ⟨gb, j, none⟩))) (hy : ev m y = some v) (hi : H[i]? = some (.blk gb cs tb)) (hv : v.cells.toList = vs) (hn : vs.length = 2) (h1 : vs.all (·.oneCell') = true) (hj : Nat.ble (j + vs.length) cs.length = true) (hp : putc cs j vs = cs') (h : WL Try.prog E N ops Q m (H.set i (.blk gb cs' tb)) rest) : WL Try.prog E N ops Q m H (⟨none, .store 31 x y, ty, pos, af, g⟩ :: rest) :=
  WL.store i gb j cs vs cs' tb v hw hx hy hi hv (hn ▸ size31) h1 hj hp h
theorem WL.st33 (i : Nat) {gb j : Nat} {cs vs cs' : List Value} {tb : TypeId} {v : Value} (hw : Wd ops m g = some true) (hx : ev m x = some (.pointer (some ⟨gb, j, none⟩))) (hy : ev m y = some v) (hi : H[i]? = some (.blk gb cs tb)) (hv : v.cells.toList = vs) (hn : vs.length = 14) (h1 : vs.all (·.oneCell') = true) (hj : Nat.ble (j + vs.length) cs.length = true) (hp : putc cs j vs = cs') (h : WL Try.prog E N ops Q m (H.set i (.blk gb cs' tb)) rest) : WL Try.prog E N ops Q m H (⟨none, .store 33 x y, ty, pos, af, g⟩ :: rest) :=
  WL.store i gb j cs vs cs' tb v hw hx hy hi hv (hn ▸ size33) h1 hj hp h
theorem WL.st35 (i : Nat) {gb j : Nat} {cs vs cs' : List Value} {tb : TypeId} {v : Value} (hw : Wd ops m g = some true) (hx : ev m x = some (.pointer (some ⟨gb, j, none⟩))) (hy : ev m y = some v) (hi : H[i]? = some (.blk gb cs tb)) (hv : v.cells.toList = vs) (hn : vs.length = 13) (h1 : vs.all (·.oneCell') = true) (hj : Nat.ble (j + vs.length) cs.length = true) (hp : putc cs j vs = cs') (h : WL Try.prog E N ops Q m (H.set i (.blk gb cs' tb)) rest) : WL Try.prog E N ops Q m H (⟨none, .store 35 x y, ty, pos, af, g⟩ :: rest) :=
  WL.store i gb j cs vs cs' tb v hw hx hy hi hv (hn ▸ size35) h1 hj hp h
theorem WL.st37 (i : Nat) {gb j : Nat} {cs vs cs' : List Value} {tb : TypeId} {v : Value} (hw : Wd ops m g = some true) (hx : ev m x = some (.pointer (some ⟨gb, j, none⟩))) (hy : ev m y = some v) (hi : H[i]? = some (.blk gb cs tb)) (hv : v.cells.toList = vs) (hn : vs.length = 29) (h1 : vs.all (·.oneCell') = true) (hj : Nat.ble (j + vs.length) cs.length = true) (hp : putc cs j vs = cs') (h : WL Try.prog E N ops Q m (H.set i (.blk gb cs' tb)) rest) : WL Try.prog E N ops Q m H (⟨none, .store 37 x y, ty, pos, af, g⟩ :: rest) :=
  WL.store i gb j cs vs cs' tb v hw hx hy hi hv (hn ▸ size37) h1 hj hp h
theorem WL.st39 (i : Nat) {gb j : Nat} {cs vs cs' : List Value} {tb : TypeId} {v : Value} (hw : Wd ops m g = some true) (hx : ev m x = some (.pointer (some ⟨gb, j, none⟩))) (hy : ev m y = some v) (hi : H[i]? = some (.blk gb cs tb)) (hv : v.cells.toList = vs) (hn : vs.length = 1) (h1 : vs.all (·.oneCell') = true) (hj : Nat.ble (j + vs.length) cs.length = true) (hp : putc cs j vs = cs') (h : WL Try.prog E N ops Q m (H.set i (.blk gb cs' tb)) rest) : WL Try.prog E N ops Q m H (⟨none, .store 39 x y, ty, pos, af, g⟩ :: rest) :=
  WL.store i gb j cs vs cs' tb v hw hx hy hi hv (hn ▸ size39) h1 hj hp h
theorem WL.st40 (i : Nat) {gb j : Nat} {cs vs cs' : List Value} {tb : TypeId} {v : Value} (hw : Wd ops m g = some true) (hx : ev m x = some (.pointer (some ⟨gb, j, none⟩))) (hy : ev m y = some v) (hi : H[i]? = some (.blk gb cs tb)) (hv : v.cells.toList = vs) (hn : vs.length = 1) (h1 : vs.all (·.oneCell') = true) (hj : Nat.ble (j + vs.length) cs.length = true) (hp : putc cs j vs = cs') (h : WL Try.prog E N ops Q m (H.set i (.blk gb cs' tb)) rest) : WL Try.prog E N ops Q m H (⟨none, .store 40 x y, ty, pos, af, g⟩ :: rest) :=
  WL.store i gb j cs vs cs' tb v hw hx hy hi hv (hn ▸ size40) h1 hj hp h
theorem WL.st53 (i : Nat) {gb j : Nat} {cs vs cs' : List Value} {tb : TypeId} {v : Value} (hw : Wd ops m g = some true) (hx : ev m x = some (.pointer (some ⟨gb, j, none⟩))) (hy : ev m y = some v) (hi : H[i]? = some (.blk gb cs tb)) (hv : v.cells.toList = vs) (hn : vs.length = 1) (h1 : vs.all (·.oneCell') = true) (hj : Nat.ble (j + vs.length) cs.length = true) (hp : putc cs j vs = cs') (h : WL Try.prog E N ops Q m (H.set i (.blk gb cs' tb)) rest) : WL Try.prog E N ops Q m H (⟨none, .store 53 x y, ty, pos, af, g⟩ :: rest) :=
  WL.store i gb j cs vs cs' tb v hw hx hy hi hv (hn ▸ size53) h1 hj hp h
theorem WL.st63 (i : Nat) {gb j : Nat} {cs vs cs' : List Value} {tb : TypeId} {v : Value} (hw : Wd ops m g = some true) (hx : ev m x = some (.pointer (some ⟨gb, j, none⟩))) (hy : ev m y = some v) (hi : H[i]? = some (.blk gb cs tb)) (hv : v.cells.toList = vs) (hn : vs.length = 2) (h1 : vs.all (·.oneCell') = true) (hj : Nat.ble (j + vs.length) cs.length = true) (hp : putc cs j vs = cs') (h : WL Try.prog E N ops Q m (H.set i (.blk gb cs' tb)) rest) : WL Try.prog E N ops Q m H (⟨none, .store 63 x y, ty, pos, af, g⟩ :: rest) :=
  WL.store i gb j cs vs cs' tb v hw hx hy hi hv (hn ▸ size63) h1 hj hp h
theorem WL.st96 (i : Nat) {gb j : Nat} {cs vs cs' : List Value} {tb : TypeId} {v : Value} (hw : Wd ops m g = some true) (hx : ev m x = some (.pointer (some ⟨gb, j, none⟩))) (hy : ev m y = some v) (hi : H[i]? = some (.blk gb cs tb)) (hv : v.cells.toList = vs) (hn : vs.length = 3) (h1 : vs.all (·.oneCell') = true) (hj : Nat.ble (j + vs.length) cs.length = true) (hp : putc cs j vs = cs') (h : WL Try.prog E N ops Q m (H.set i (.blk gb cs' tb)) rest) : WL Try.prog E N ops Q m H (⟨none, .store 96 x y, ty, pos, af, g⟩ :: rest) :=
  WL.store i gb j cs vs cs' tb v hw hx hy hi hv (hn ▸ size96) h1 hj hp h
theorem WL.st139 (i : Nat) {gb j : Nat} {cs vs cs' : List Value} {tb : TypeId} {v : Value} (hw : Wd ops m g = some true) (hx : ev m x = some (.pointer (some ⟨gb, j, none⟩))) (hy : ev m y = some v) (hi : H[i]? = some (.blk gb cs tb)) (hv : v.cells.toList = vs) (hn : vs.length = 21) (h1 : vs.all (·.oneCell') = true) (hj : Nat.ble (j + vs.length) cs.length = true) (hp : putc cs j vs = cs') (h : WL Try.prog E N ops Q m (H.set i (.blk gb cs' tb)) rest) : WL Try.prog E N ops Q m H (⟨none, .store 139 x y, ty, pos, af, g⟩ :: rest) :=
  WL.store i gb j cs vs cs' tb v hw hx hy hi hv (hn ▸ size139) h1 hj hp h
theorem WL.st140 (i : Nat) {gb j : Nat} {cs vs cs' : List Value} {tb : TypeId} {v : Value} (hw : Wd ops m g = some true) (hx : ev m x = some (.pointer (some ⟨gb, j, none⟩))) (hy : ev m y = some v) (hi : H[i]? = some (.blk gb cs tb)) (hv : v.cells.toList = vs) (hn : vs.length = 11) (h1 : vs.all (·.oneCell') = true) (hj : Nat.ble (j + vs.length) cs.length = true) (hp : putc cs j vs = cs') (h : WL Try.prog E N ops Q m (H.set i (.blk gb cs' tb)) rest) : WL Try.prog E N ops Q m H (⟨none, .store 140 x y, ty, pos, af, g⟩ :: rest) :=
  WL.store i gb j cs vs cs' tb v hw hx hy hi hv (hn ▸ size140) h1 hj hp h
theorem WL.cv2_29 {k : IntKind} {n : Int} (hw : Wd ops m g = some true) (hd : d < N) (hx : ev m x = some (.int k n)) (h : WL Try.prog E N ops Q ((d, .int .u32 (IntKind.u32.wrap n)) :: m) H rest) : WL Try.prog E N ops Q m H (⟨some d, .convert 2 29 x, ty, pos, af, g⟩ :: rest) :=
  WL.convi _ k .u32 n _ hw hd hx Try.underlying2 Try.underlying29 rfl h
theorem WL.cv2_53 {k : IntKind} {n : Int} (hw : Wd ops m g = some true) (hd : d < N) (hx : ev m x = some (.int k n)) (h : WL Try.prog E N ops Q ((d, .int .u64 (IntKind.u64.wrap n)) :: m) H rest) : WL Try.prog E N ops Q m H (⟨some d, .convert 2 53 x, ty, pos, af, g⟩ :: rest) :=
  WL.convi _ k .u64 n _ hw hd hx Try.underlying2 Try.underlying53 rfl h
theorem WL.cv3_5 {k : IntKind} {n : Int} (hw : Wd ops m g = some true) (hd : d < N) (hx : ev m x = some (.int k n)) (h : WL Try.prog E N ops Q ((d, .int .u8 (IntKind.u8.wrap n)) :: m) H rest) : WL Try.prog E N ops Q m H (⟨some d, .convert 3 5 x, ty, pos, af, g⟩ :: rest) :=
  WL.convi _ k .u8 n _ hw hd hx Try.underlying3 Try.underlying5 rfl h
theorem WL.cv3_50 {k : IntKind} {n : Int} (hw : Wd ops m g = some true) (hd : d < N) (hx : ev m x = some (.int k n)) (h : WL Try.prog E N ops Q ((d, .int .u64 (IntKind.u64.wrap n)) :: m) H rest) : WL Try.prog E N ops Q m H (⟨some d, .convert 3 50 x, ty, pos, af, g⟩ :: rest) :=
  WL.convi _ k .u64 n _ hw hd hx Try.underlying3 Try.underlying50 rfl h
theorem WL.cv3_53 {k : IntKind} {n : Int} (hw : Wd ops m g = some true) (hd : d < N) (hx : ev m x = some (.int k n)) (h : WL Try.prog E N ops Q ((d, .int .u64 (IntKind.u64.wrap n)) :: m) H rest) : WL Try.prog E N ops Q m H (⟨some d, .convert 3 53 x, ty, pos, af, g⟩ :: rest) :=
  WL.convi _ k .u64 n _ hw hd hx Try.underlying3 Try.underlying53 rfl h
theorem WL.cv3_55 {k : IntKind} {n : Int} (hw : Wd ops m g = some true) (hd : d < N) (hx : ev m x = some (.int k n)) (h : WL Try.prog E N ops Q ((d, .int .u16 (IntKind.u16.wrap n)) :: m) H rest) : WL Try.prog E N ops Q m H (⟨some d, .convert 3 55 x, ty, pos, af, g⟩ :: rest) :=
  WL.convi _ k .u16 n _ hw hd hx Try.underlying3 Try.underlying55 rfl h
theorem WL.cv5_3 {k : IntKind} {n : Int} (hw : Wd ops m g = some true) (hd : d < N) (hx : ev m x = some (.int k n)) (h : WL Try.prog E N ops Q ((d, .int .i64 (IntKind.i64.wrap n)) :: m) H rest) : WL Try.prog E N ops Q m H (⟨some d, .convert 5 3 x, ty, pos, af, g⟩ :: rest) :=
  WL.convi _ k .i64 n _ hw hd hx Try.underlying5 Try.underlying3 rfl h
theorem WL.cv5_53 {k : IntKind} {n : Int} (hw : Wd ops m g = some true) (hd : d < N) (hx : ev m x = some (.int k n)) (h : WL Try.prog E N ops Q ((d, .int .u64 (IntKind.u64.wrap n)) :: m) H rest) : WL Try.prog E N ops Q m H (⟨some d, .convert 5 53 x, ty, pos, af, g⟩ :: rest) :=
  WL.convi _ k .u64 n _ hw hd hx Try.underlying5 Try.underlying53 rfl h
theorem WL.cv21_5 {k : IntKind} {n : Int} (hw : Wd ops m g = some true) (hd : d < N) (hx : ev m x = some (.int k n)) (h : WL Try.prog E N ops Q ((d, .int .u8 (IntKind.u8.wrap n)) :: m) H rest) : WL Try.prog E N ops Q m H (⟨some d, .convert 21 5 x, ty, pos, af, g⟩ :: rest) :=
  WL.convi _ k .u8 n _ hw hd hx Try.underlying21 Try.underlying5 rfl h
theorem WL.cv28_53 {k : IntKind} {n : Int} (hw : Wd ops m g = some true) (hd : d < N) (hx : ev m x = some (.int k n)) (h : WL Try.prog E N ops Q ((d, .int .u64 (IntKind.u64.wrap n)) :: m) H rest) : WL Try.prog E N ops Q m H (⟨some d, .convert 28 53 x, ty, pos, af, g⟩ :: rest) :=
  WL.convi _ k .u64 n _ hw hd hx Try.underlying28 Try.underlying53 rfl h
theorem WL.cv29_2 {k : IntKind} {n : Int} (hw : Wd ops m g = some true) (hd : d < N) (hx : ev m x = some (.int k n)) (h : WL Try.prog E N ops Q ((d, .int .i64 (IntKind.i64.wrap n)) :: m) H rest) : WL Try.prog E N ops Q m H (⟨some d, .convert 29 2 x, ty, pos, af, g⟩ :: rest) :=
  WL.convi _ k .i64 n _ hw hd hx Try.underlying29 Try.underlying2 rfl h
theorem WL.cv29_53 {k : IntKind} {n : Int} (hw : Wd ops m g = some true) (hd : d < N) (hx : ev m x = some (.int k n)) (h : WL Try.prog E N ops Q ((d, .int .u64 (IntKind.u64.wrap n)) :: m) H rest) : WL Try.prog E N ops Q m H (⟨some d, .convert 29 53 x, ty, pos, af, g⟩ :: rest) :=
  WL.convi _ k .u64 n _ hw hd hx Try.underlying29 Try.underlying53 rfl h
theorem WL.cv50_3 {k : IntKind} {n : Int} (hw : Wd ops m g = some true) (hd : d < N) (hx : ev m x = some (.int k n)) (h : WL Try.prog E N ops Q ((d, .int .i64 (IntKind.i64.wrap n)) :: m) H rest) : WL Try.prog E N ops Q m H (⟨some d, .convert 50 3 x, ty, pos, af, g⟩ :: rest) :=
  WL.convi _ k .i64 n _ hw hd hx Try.underlying50 Try.underlying3 rfl h
theorem WL.cv53_2 {k : IntKind} {n : Int} (hw : Wd ops m g = some true) (hd : d < N) (hx : ev m x = some (.int k n)) (h : WL Try.prog E N ops Q ((d, .int .i64 (IntKind.i64.wrap n)) :: m) H rest) : WL Try.prog E N ops Q m H (⟨some d, .convert 53 2 x, ty, pos, af, g⟩ :: rest) :=
  WL.convi _ k .i64 n _ hw hd hx Try.underlying53 Try.underlying2 rfl h
theorem WL.cv53_3 {k : IntKind} {n : Int} (hw : Wd ops m g = some true) (hd : d < N) (hx : ev m x = some (.int k n)) (h : WL Try.prog E N ops Q ((d, .int .i64 (IntKind.i64.wrap n)) :: m) H rest) : WL Try.prog E N ops Q m H (⟨some d, .convert 53 3 x, ty, pos, af, g⟩ :: rest) :=
  WL.convi _ k .i64 n _ hw hd hx Try.underlying53 Try.underlying3 rfl h
theorem WL.cv53_5 {k : IntKind} {n : Int} (hw : Wd ops m g = some true) (hd : d < N) (hx : ev m x = some (.int k n)) (h : WL Try.prog E N ops Q ((d, .int .u8 (IntKind.u8.wrap n)) :: m) H rest) : WL Try.prog E N ops Q m H (⟨some d, .convert 53 5 x, ty, pos, af, g⟩ :: rest) :=
  WL.convi _ k .u8 n _ hw hd hx Try.underlying53 Try.underlying5 rfl h
theorem WL.cv53_28 {k : IntKind} {n : Int} (hw : Wd ops m g = some true) (hd : d < N) (hx : ev m x = some (.int k n)) (h : WL Try.prog E N ops Q ((d, .int .u32 (IntKind.u32.wrap n)) :: m) H rest) : WL Try.prog E N ops Q m H (⟨some d, .convert 53 28 x, ty, pos, af, g⟩ :: rest) :=
  WL.convi _ k .u32 n _ hw hd hx Try.underlying53 Try.underlying28 rfl h
theorem WL.cv53_29 {k : IntKind} {n : Int} (hw : Wd ops m g = some true) (hd : d < N) (hx : ev m x = some (.int k n)) (h : WL Try.prog E N ops Q ((d, .int .u32 (IntKind.u32.wrap n)) :: m) H rest) : WL Try.prog E N ops Q m H (⟨some d, .convert 53 29 x, ty, pos, af, g⟩ :: rest) :=
  WL.convi _ k .u32 n _ hw hd hx Try.underlying53 Try.underlying29 rfl h
theorem WL.cv53_55 {k : IntKind} {n : Int} (hw : Wd ops m g = some true) (hd : d < N) (hx : ev m x = some (.int k n)) (h : WL Try.prog E N ops Q ((d, .int .u16 (IntKind.u16.wrap n)) :: m) H rest) : WL Try.prog E N ops Q m H (⟨some d, .convert 53 55 x, ty, pos, af, g⟩ :: rest) :=
  WL.convi _ k .u16 n _ hw hd hx Try.underlying53 Try.underlying55 rfl h
theorem WL.cv55_3 {k : IntKind} {n : Int} (hw : Wd ops m g = some true) (hd : d < N) (hx : ev m x = some (.int k n)) (h : WL Try.prog E N ops Q ((d, .int .i64 (IntKind.i64.wrap n)) :: m) H rest) : WL Try.prog E N ops Q m H (⟨some d, .convert 55 3 x, ty, pos, af, g⟩ :: rest) :=
  WL.convi _ k .i64 n _ hw hd hx Try.underlying55 Try.underlying3 rfl h
theorem WL.cv55_53 {k : IntKind} {n : Int} (hw : Wd ops m g = some true) (hd : d < N) (hx : ev m x = some (.int k n)) (h : WL Try.prog E N ops Q ((d, .int .u64 (IntKind.u64.wrap n)) :: m) H rest) : WL Try.prog E N ops Q m H (⟨some d, .convert 55 53 x, ty, pos, af, g⟩ :: rest) :=
  WL.convi _ k .u64 n _ hw hd hx Try.underlying55 Try.underlying53 rfl h
theorem WL.ln22 {A0 : Option Addr} {n c : Nat} (hw : Wd ops m g = some true) (hd : d < N) (hx : ev m x = some (.slice A0 n c)) (h : WL Try.prog E N ops Q ((d, .int .i64 n) :: m) H rest) : WL Try.prog E N ops Q m H (⟨some d, .call { callee := .builtin .len, args := #[x], argTypes := #[22] }, ty, pos, af, g⟩ :: rest) :=
  WL.len A0 n c _ Try.underlying22 hw hd hx h
theorem WL.ln23 {A0 : Option Addr} {n c : Nat} (hw : Wd ops m g = some true) (hd : d < N) (hx : ev m x = some (.slice A0 n c)) (h : WL Try.prog E N ops Q ((d, .int .i64 n) :: m) H rest) : WL Try.prog E N ops Q m H (⟨some d, .call { callee := .builtin .len, args := #[x], argTypes := #[23] }, ty, pos, af, g⟩ :: rest) :=
  WL.len A0 n c _ Try.underlying23 hw hd hx h
theorem WL.ln25 {A0 : Option Addr} {n c : Nat} (hw : Wd ops m g = some true) (hd : d < N) (hx : ev m x = some (.slice A0 n c)) (h : WL Try.prog E N ops Q ((d, .int .i64 n) :: m) H rest) : WL Try.prog E N ops Q m H (⟨some d, .call { callee := .builtin .len, args := #[x], argTypes := #[25] }, ty, pos, af, g⟩ :: rest) :=
  WL.len A0 n c _ Try.underlying25 hw hd hx h
theorem WL.ln39 {A0 : Option Addr} {n c : Nat} (hw : Wd ops m g = some true) (hd : d < N) (hx : ev m x = some (.slice A0 n c)) (h : WL Try.prog E N ops Q ((d, .int .i64 n) :: m) H rest) : WL Try.prog E N ops Q m H (⟨some d, .call { callee := .builtin .len, args := #[x], argTypes := #[39] }, ty, pos, af, g⟩ :: rest) :=
  WL.len A0 n c _ Try.underlying39 hw hd hx h
theorem WL.ln67 {A0 : Option Addr} {n c : Nat} (hw : Wd ops m g = some true) (hd : d < N) (hx : ev m x = some (.slice A0 n c)) (h : WL Try.prog E N ops Q ((d, .int .i64 n) :: m) H rest) : WL Try.prog E N ops Q m H (⟨some d, .call { callee := .builtin .len, args := #[x], argTypes := #[67] }, ty, pos, af, g⟩ :: rest) :=
  WL.len A0 n c _ Try.underlying67 hw hd hx h
theorem WL.ln141 {A0 : Option Addr} {n c : Nat} (hw : Wd ops m g = some true) (hd : d < N) (hx : ev m x = some (.slice A0 n c)) (h : WL Try.prog E N ops Q ((d, .int .i64 n) :: m) H rest) : WL Try.prog E N ops Q m H (⟨some d, .call { callee := .builtin .len, args := #[x], argTypes := #[141] }, ty, pos, af, g⟩ :: rest) :=
  WL.len A0 n c _ Try.underlying141 hw hd hx h
theorem WL.peq68_s {ad : Addr} (hw : Wd ops m g = some true) (hd : d < N) (hx : ev m x = some (.pointer (some ad))) (hy : ev m y = some (.pointer none)) (h : WL Try.prog E N ops Q ((d, .bool false) :: m) H rest) : WL Try.prog E N ops Q m H (⟨some d, .binOp .eql 68 x y t2, ty, pos, af, g⟩ :: rest) :=
  WL.peq_s _ ad Try.underlying68 hw hd hx hy h
theorem WL.pne68_s {ad : Addr} (hw : Wd ops m g = some true) (hd : d < N) (hx : ev m x = some (.pointer (some ad))) (hy : ev m y = some (.pointer none)) (h : WL Try.prog E N ops Q ((d, .bool true) :: m) H rest) : WL Try.prog E N ops Q m H (⟨some d, .binOp .neq 68 x y t2, ty, pos, af, g⟩ :: rest) :=
  WL.pne_s _ ad Try.underlying68 hw hd hx hy h
theorem WL.peq68_n  (hw : Wd ops m g = some true) (hd : d < N) (hx : ev m x = some (.pointer none)) (hy : ev m y = some (.pointer none)) (h : WL Try.prog E N ops Q ((d, .bool true) :: m) H rest) : WL Try.prog E N ops Q m H (⟨some d, .binOp .eql 68 x y t2, ty, pos, af, g⟩ :: rest) :=
  WL.peq_n _ Try.underlying68 hw hd hx hy h
theorem WL.pne68_n  (hw : Wd ops m g = some true) (hd : d < N) (hx : ev m x = some (.pointer none)) (hy : ev m y = some (.pointer none)) (h : WL Try.prog E N ops Q ((d, .bool false) :: m) H rest) : WL Try.prog E N ops Q m H (⟨some d, .binOp .neq 68 x y t2, ty, pos, af, g⟩ :: rest) :=
  WL.pne_n _ Try.underlying68 hw hd hx hy h
end
end Go.Proofs.Ytalafklnnohlgaa.X
