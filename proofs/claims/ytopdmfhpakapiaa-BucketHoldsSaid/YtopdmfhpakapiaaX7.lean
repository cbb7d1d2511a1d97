/- Closed facts on the program's types, and the rules with them filled in. No condition. -/
import Derived.Test.YtopdmfhpakapiaaX6
import Derived.Test.YtopdmfhpakapiaaProg
namespace Go.Proofs.Ytopdmfhpakapiaa.X
open Go.RowKit
set_option linter.unusedVariables false
theorem agg2 : ∀ w, (isAgg 2).run Try.prog w = .ok false w := fun w => by kernel_rfl
theorem agg3 : ∀ w, (isAgg 3).run Try.prog w = .ok false w := fun w => by kernel_rfl
theorem agg23 : ∀ w, (isAgg 23).run Try.prog w = .ok true w := fun w => by kernel_rfl
theorem agg33 : ∀ w, (isAgg 33).run Try.prog w = .ok true w := fun w => by kernel_rfl
theorem agg36 : ∀ w, (isAgg 36).run Try.prog w = .ok true w := fun w => by kernel_rfl
theorem agg50 : ∀ w, (isAgg 50).run Try.prog w = .ok true w := fun w => by kernel_rfl
theorem size2 : ∀ w, (sizeOf 2).run Try.prog w = .ok 1 w := fun w => by kernel_rfl
theorem size3 : ∀ w, (sizeOf 3).run Try.prog w = .ok 1 w := fun w => by kernel_rfl
theorem size5 : ∀ w, (sizeOf 5).run Try.prog w = .ok 1 w := fun w => by kernel_rfl
theorem size23 : ∀ w, (sizeOf 23).run Try.prog w = .ok 2 w := fun w => by kernel_rfl
theorem size33 : ∀ w, (sizeOf 33).run Try.prog w = .ok 3 w := fun w => by kernel_rfl
theorem size36 : ∀ w, (sizeOf 36).run Try.prog w = .ok 2 w := fun w => by kernel_rfl
theorem size50 : ∀ w, (sizeOf 50).run Try.prog w = .ok 3 w := fun w => by kernel_rfl
theorem fa23_0 (r j : Nat) : ∀ w, (Instr.fieldAt 23 (.pointer (some ⟨r, j, none⟩)) 0).run Try.prog w = .ok (.pointer (some ⟨r, j, none⟩)) w := fun w => by kernel_rfl
theorem fa23_1 (r j : Nat) : ∀ w, (Instr.fieldAt 23 (.pointer (some ⟨r, j, none⟩)) 1).run Try.prog w = .ok (.pointer (some ⟨r, j + 1, none⟩)) w := fun w => by kernel_rfl
theorem fa33_0 (r j : Nat) : ∀ w, (Instr.fieldAt 33 (.pointer (some ⟨r, j, none⟩)) 0).run Try.prog w = .ok (.pointer (some ⟨r, j, none⟩)) w := fun w => by kernel_rfl
theorem fa33_1 (r j : Nat) : ∀ w, (Instr.fieldAt 33 (.pointer (some ⟨r, j, none⟩)) 1).run Try.prog w = .ok (.pointer (some ⟨r, j + 1, none⟩)) w := fun w => by kernel_rfl
theorem fa33_2 (r j : Nat) : ∀ w, (Instr.fieldAt 33 (.pointer (some ⟨r, j, none⟩)) 2).run Try.prog w = .ok (.pointer (some ⟨r, j + 2, none⟩)) w := fun w => by kernel_rfl
theorem fa36_0 (r j : Nat) : ∀ w, (Instr.fieldAt 36 (.pointer (some ⟨r, j, none⟩)) 0).run Try.prog w = .ok (.pointer (some ⟨r, j, none⟩)) w := fun w => by kernel_rfl
theorem fa36_1 (r j : Nat) : ∀ w, (Instr.fieldAt 36 (.pointer (some ⟨r, j, none⟩)) 1).run Try.prog w = .ok (.pointer (some ⟨r, j + 1, none⟩)) w := fun w => by kernel_rfl
theorem fa50_0 (r j : Nat) : ∀ w, (Instr.fieldAt 50 (.pointer (some ⟨r, j, none⟩)) 0).run Try.prog w = .ok (.pointer (some ⟨r, j, none⟩)) w := fun w => by kernel_rfl
theorem fa50_1 (r j : Nat) : ∀ w, (Instr.fieldAt 50 (.pointer (some ⟨r, j, none⟩)) 1).run Try.prog w = .ok (.pointer (some ⟨r, j + 1, none⟩)) w := fun w => by kernel_rfl
theorem fa50_2 (r j : Nat) : ∀ w, (Instr.fieldAt 50 (.pointer (some ⟨r, j, none⟩)) 2).run Try.prog w = .ok (.pointer (some ⟨r, j + 2, none⟩)) w := fun w => by kernel_rfl
section
variable {E : Env} {N : Nat} {m : List (Nat × Value)} {H : List Ck} {Q : Exit → Act → World → Prop} {ops : Array Oper} {rest : List Oper}
variable {ty t t2 : TypeId} {pos : String} {af : Array Edge} {g : Option (Nat × Bool)} {d : Nat} {x y : Operand}
theorem WL.fd23_0 {r j : Nat} (hw : Wd ops m g = some true) (hd : d < N) (hx : ev m x = some (.pointer (some ⟨r, j, none⟩))) (h : WL Try.prog E N ops Q ((d, .pointer (some ⟨r, j, none⟩)) :: m) H rest) : WL Try.prog E N ops Q m H (⟨some d, .fieldAddr 23 x 0, ty, pos, af, g⟩ :: rest) :=
  WL.faddr _ _ hw hd hx (fa23_0 r j) h
theorem WL.fd23_1 {r j : Nat} (hw : Wd ops m g = some true) (hd : d < N) (hx : ev m x = some (.pointer (some ⟨r, j, none⟩))) (h : WL Try.prog E N ops Q ((d, .pointer (some ⟨r, j + 1, none⟩)) :: m) H rest) : WL Try.prog E N ops Q m H (⟨some d, .fieldAddr 23 x 1, ty, pos, af, g⟩ :: rest) :=
  WL.faddr _ _ hw hd hx (fa23_1 r j) h
theorem WL.fd33_0 {r j : Nat} (hw : Wd ops m g = some true) (hd : d < N) (hx : ev m x = some (.pointer (some ⟨r, j, none⟩))) (h : WL Try.prog E N ops Q ((d, .pointer (some ⟨r, j, none⟩)) :: m) H rest) : WL Try.prog E N ops Q m H (⟨some d, .fieldAddr 33 x 0, ty, pos, af, g⟩ :: rest) :=
  WL.faddr _ _ hw hd hx (fa33_0 r j) h
theorem WL.fd33_1 {r j : Nat} (hw : Wd ops m g = some true) (hd : d < N) (hx : ev m x = some (.pointer (some ⟨r, j, none⟩))) (h : WL Try.prog E N ops Q ((d, .pointer (some ⟨r, j + 1, none⟩)) :: m) H rest) : WL Try.prog E N ops Q m H (⟨some d, .fieldAddr 33 x 1, ty, pos, af, g⟩ :: rest) :=
  WL.faddr _ _ hw hd hx (fa33_1 r j) h
theorem WL.fd33_2 {r j : Nat} (hw : Wd ops m g = some true) (hd : d < N) (hx : ev m x = some (.pointer (some ⟨r, j, none⟩))) (h : WL Try.prog E N ops Q ((d, .pointer (some ⟨r, j + 2, none⟩)) :: m) H rest) : WL Try.prog E N ops Q m H (⟨some d, .fieldAddr 33 x 2, ty, pos, af, g⟩ :: rest) :=
  WL.faddr _ _ hw hd hx (fa33_2 r j) h
theorem WL.fd36_0 {r j : Nat} (hw : Wd ops m g = some true) (hd : d < N) (hx : ev m x = some (.pointer (some ⟨r, j, none⟩))) (h : WL Try.prog E N ops Q ((d, .pointer (some ⟨r, j, none⟩)) :: m) H rest) : WL Try.prog E N ops Q m H (⟨some d, .fieldAddr 36 x 0, ty, pos, af, g⟩ :: rest) :=
  WL.faddr _ _ hw hd hx (fa36_0 r j) h
theorem WL.fd36_1 {r j : Nat} (hw : Wd ops m g = some true) (hd : d < N) (hx : ev m x = some (.pointer (some ⟨r, j, none⟩))) (h : WL Try.prog E N ops Q ((d, .pointer (some ⟨r, j + 1, none⟩)) :: m) H rest) : WL Try.prog E N ops Q m H (⟨some d, .fieldAddr 36 x 1, ty, pos, af, g⟩ :: rest) :=
  WL.faddr _ _ hw hd hx (fa36_1 r j) h
theorem WL.fd50_0 {r j : Nat} (hw : Wd ops m g = some true) (hd : d < N) (hx : ev m x = some (.pointer (some ⟨r, j, none⟩))) (h : WL Try.prog E N ops Q ((d, .pointer (some ⟨r, j, none⟩)) :: m) H rest) : WL Try.prog E N ops Q m H (⟨some d, .fieldAddr 50 x 0, ty, pos, af, g⟩ :: rest) :=
  WL.faddr _ _ hw hd hx (fa50_0 r j) h
theorem WL.fd50_1 {r j : Nat} (hw : Wd ops m g = some true) (hd : d < N) (hx : ev m x = some (.pointer (some ⟨r, j, none⟩))) (h : WL Try.prog E N ops Q ((d, .pointer (some ⟨r, j + 1, none⟩)) :: m) H rest) : WL Try.prog E N ops Q m H (⟨some d, .fieldAddr 50 x 1, ty, pos, af, g⟩ :: rest) :=
  WL.faddr _ _ hw hd hx (fa50_1 r j) h
theorem WL.fd50_2 {r j : Nat} (hw : Wd ops m g = some true) (hd : d < N) (hx : ev m x = some (.pointer (some ⟨r, j, none⟩))) (h : WL Try.prog E N ops Q ((d, .pointer (some ⟨r, j + 2, none⟩)) :: m) H rest) : WL Try.prog E N ops Q m H (⟨some d, .fieldAddr 50 x 2, ty, pos, af, g⟩ :: rest) :=
  WL.faddr _ _ hw hd hx (fa50_2 r j) h
theorem WL.ld2 (i : Nat) {gb j : Nat} {cs : List Value} {tb : TypeId} {v : Value} (hw : Wd ops m g = some true) (hd : d < N) (hx : ev m x = some (.pointer (some ⟨gb, j, none⟩))) (hi : H[i]? = some (.blk gb cs tb)) (hj : cs[j]? = some v) (h : WL Try.prog E N ops Q ((d, v) :: m) H rest) : WL Try.prog E N ops Q m H (⟨some d, .load 2 x, ty, pos, af, g⟩ :: rest) :=
  WL.load i gb j cs tb v hw hd hx agg2 hi hj h
theorem WL.le2 {ad : Addr} {v : Value} (hw : Wd ops m g = some true) (hd : d < N) (hx : ev m x = some (.pointer (some ad))) (hl : ∀ w, I E H w → w.cell? ad = some v) (h : WL Try.prog E N ops Q ((d, v) :: m) H rest) : WL Try.prog E N ops Q m H (⟨some d, .load 2 x, ty, pos, af, g⟩ :: rest) :=
  WL.load1 ad v hw hd hx agg2 hl h
theorem WL.ld3 (i : Nat) {gb j : Nat} {cs : List Value} {tb : TypeId} {v : Value} (hw : Wd ops m g = some true) (hd : d < N) (hx : ev m x = some (.pointer (some ⟨gb, j, none⟩))) (hi : H[i]? = some (.blk gb cs tb)) (hj : cs[j]? = some v) (h : WL Try.prog E N ops Q ((d, v) :: m) H rest) : WL Try.prog E N ops Q m H (⟨some d, .load 3 x, ty, pos, af, g⟩ :: rest) :=
  WL.load i gb j cs tb v hw hd hx agg3 hi hj h
theorem WL.le3 {ad : Addr} {v : Value} (hw : Wd ops m g = some true) (hd : d < N) (hx : ev m x = some (.pointer (some ad))) (hl : ∀ w, I E H w → w.cell? ad = some v) (h : WL Try.prog E N ops Q ((d, v) :: m) H rest) : WL Try.prog E N ops Q m H (⟨some d, .load 3 x, ty, pos, af, g⟩ :: rest) :=
  WL.load1 ad v hw hd hx agg3 hl h
theorem WL.ld23 (i : Nat) {gb j : Nat} {cs vs : List Value} {tb : TypeId} (hw : Wd ops m g = some true) (hd : d < N) (hx : ev m x = some (.pointer (some ⟨gb, j, none⟩))) (hi : H[i]? = some (.blk gb cs tb)) (hj : (cs.drop j).take 2 = vs) (hn : vs.length = 2) (h : WL Try.prog E N ops Q ((d, .agg vs.toArray) :: m) H rest) : WL Try.prog E N ops Q m H (⟨some d, .load 23 x, ty, pos, af, g⟩ :: rest) :=
  WL.loadA i gb j 2 cs vs tb hw hd hx agg23 size23 hi hj hn h
theorem WL.ld33 (i : Nat) {gb j : Nat} {cs vs : List Value} {tb : TypeId} (hw : Wd ops m g = some true) (hd : d < N) (hx : ev m x = some (.pointer (some ⟨gb, j, none⟩))) (hi : H[i]? = some (.blk gb cs tb)) (hj : (cs.drop j).take 3 = vs) (hn : vs.length = 3) (h : WL Try.prog E N ops Q ((d, .agg vs.toArray) :: m) H rest) : WL Try.prog E N ops Q m H (⟨some d, .load 33 x, ty, pos, af, g⟩ :: rest) :=
  WL.loadA i gb j 3 cs vs tb hw hd hx agg33 size33 hi hj hn h
theorem WL.ld36 (i : Nat) {gb j : Nat} {cs vs : List Value} {tb : TypeId} (hw : Wd ops m g = some true) (hd : d < N) (hx : ev m x = some (.pointer (some ⟨gb, j, none⟩))) (hi : H[i]? = some (.blk gb cs tb)) (hj : (cs.drop j).take 2 = vs) (hn : vs.length = 2) (h : WL Try.prog E N ops Q ((d, .agg vs.toArray) :: m) H rest) : WL Try.prog E N ops Q m H (⟨some d, .load 36 x, ty, pos, af, g⟩ :: rest) :=
  WL.loadA i gb j 2 cs vs tb hw hd hx agg36 size36 hi hj hn h
theorem WL.ld50 (i : Nat) {gb j : Nat} {cs vs : List Value} {tb : TypeId} (hw : Wd ops m g = some true) (hd : d < N) (hx : ev m x = some (.pointer (some ⟨gb, j, none⟩))) (hi : H[i]? = some (.blk gb cs tb)) (hj : (cs.drop j).take 3 = vs) (hn : vs.length = 3) (h : WL Try.prog E N ops Q ((d, .agg vs.toArray) :: m) H rest) : WL Try.prog E N ops Q m H (⟨some d, .load 50 x, ty, pos, af, g⟩ :: rest) :=
  WL.loadA i gb j 3 cs vs tb hw hd hx agg50 size50 hi hj hn h
theorem WL.st2 (i : Nat) {gb j : Nat} {cs vs cs' : List Value} {tb : TypeId} {v : Value} (hw : Wd ops m g = some true) (hx : ev m x = some (.pointer (some ⟨gb, j, none⟩))) (hy : ev m y = some v) (hi : H[i]? = some (.blk gb cs tb)) (hv : v.cells.toList = vs) (hn : vs.length = 1) (h1 : vs.all (·.oneCell') = true) (hj : Nat.ble (j + vs.length) cs.length = true) (hp : putc cs j vs = cs') (h : WL Try.prog E N ops Q m (H.set i (.blk gb cs' tb)) rest) : WL Try.prog E N ops Q m H (⟨none, .store 2 x y, ty, pos, af, g⟩ :: rest) :=
  WL.store i gb j cs vs cs' tb v hw hx hy hi hv (hn ▸ size2) h1 hj hp h
theorem WL.st23 (i : Nat) {gb j : Nat} {cs vs cs' : List Value} {tb : TypeId} {v : Value} (hw : Wd ops m g = some true) (hx : ev m x = some (.pointer (some ⟨gb, j, none⟩))) (hy : ev m y = some v) (hi : H[i]? = some (.blk gb cs tb)) (hv : v.cells.toList = vs) (hn : vs.length = 2) (h1 : vs.all (·.oneCell') = true) (hj : Nat.ble (j + vs.length) cs.length = true) (hp : putc cs j vs = cs') (h : WL Try.prog E N ops Q m (H.set i (.blk gb cs' tb)) rest) : WL Try.prog E N ops Q m H (⟨none, .store 23 x y, ty, pos, af, g⟩ :: rest) :=
  WL.store i gb j cs vs cs' tb v hw hx hy hi hv (hn ▸ size23) h1 hj hp h
theorem WL.st33 (i : Nat) {gb j : Nat} {cs vs cs' : List Value} {tb : TypeId} {v : Value} (hw : Wd ops m g = some true) (hx : ev m x = some (.pointer (some ⟨gb, j, none⟩))) (hy : ev m y = some v) (hi : H[i]? = some (.blk gb cs tb)) (hv : v.cells.toList = vs) (hn : vs.length = 3) (h1 : vs.all (·.oneCell') = true) (hj : Nat.ble (j + vs.length) cs.length = true) (hp : putc cs j vs = cs') (h : WL Try.prog E N ops Q m (H.set i (.blk gb cs' tb)) rest) : WL Try.prog E N ops Q m H (⟨none, .store 33 x y, ty, pos, af, g⟩ :: rest) :=
  WL.store i gb j cs vs cs' tb v hw hx hy hi hv (hn ▸ size33) h1 hj hp h
theorem WL.st36 (i : Nat) {gb j : Nat} {cs vs cs' : List Value} {tb : TypeId} {v : Value} (hw : Wd ops m g = some true) (hx : ev m x = some (.pointer (some ⟨gb, j, none⟩))) (hy : ev m y = some v) (hi : H[i]? = some (.blk gb cs tb)) (hv : v.cells.toList = vs) (hn : vs.length = 2) (h1 : vs.all (·.oneCell') = true) (hj : Nat.ble (j + vs.length) cs.length = true) (hp : putc cs j vs = cs') (h : WL Try.prog E N ops Q m (H.set i (.blk gb cs' tb)) rest) : WL Try.prog E N ops Q m H (⟨none, .store 36 x y, ty, pos, af, g⟩ :: rest) :=
  WL.store i gb j cs vs cs' tb v hw hx hy hi hv (hn ▸ size36) h1 hj hp h
theorem WL.st50 (i : Nat) {gb j : Nat} {cs vs cs' : List Value} {tb : TypeId} {v : Value} (hw : Wd ops m g = some true) (hx : ev m x = some (.pointer (some ⟨gb, j, none⟩))) (hy : ev m y = some v) (hi : H[i]? = some (.blk gb cs tb)) (hv : v.cells.toList = vs) (hn : vs.length = 3) (h1 : vs.all (·.oneCell') = true) (hj : Nat.ble (j + vs.length) cs.length = true) (hp : putc cs j vs = cs') (h : WL Try.prog E N ops Q m (H.set i (.blk gb cs' tb)) rest) : WL Try.prog E N ops Q m H (⟨none, .store 50 x y, ty, pos, af, g⟩ :: rest) :=
  WL.store i gb j cs vs cs' tb v hw hx hy hi hv (hn ▸ size50) h1 hj hp h
theorem WL.ln29 {A0 : Option Addr} {n c : Nat} (hw : Wd ops m g = some true) (hd : d < N) (hx : ev m x = some (.slice A0 n c)) (h : WL Try.prog E N ops Q ((d, .int .i64 n) :: m) H rest) : WL Try.prog E N ops Q m H (⟨some d, .call { callee := .builtin .len, args := #[x], argTypes := #[29] }, ty, pos, af, g⟩ :: rest) :=
  WL.len A0 n c _ Try.underlying29 hw hd hx h
theorem WL.ln31 {A0 : Option Addr} {n c : Nat} (hw : Wd ops m g = some true) (hd : d < N) (hx : ev m x = some (.slice A0 n c)) (h : WL Try.prog E N ops Q ((d, .int .i64 n) :: m) H rest) : WL Try.prog E N ops Q m H (⟨some d, .call { callee := .builtin .len, args := #[x], argTypes := #[31] }, ty, pos, af, g⟩ :: rest) :=
  WL.len A0 n c _ Try.underlying31 hw hd hx h
theorem WL.ln56 {A0 : Option Addr} {n c : Nat} (hw : Wd ops m g = some true) (hd : d < N) (hx : ev m x = some (.slice A0 n c)) (h : WL Try.prog E N ops Q ((d, .int .i64 n) :: m) H rest) : WL Try.prog E N ops Q m H (⟨some d, .call { callee := .builtin .len, args := #[x], argTypes := #[56] }, ty, pos, af, g⟩ :: rest) :=
  WL.len A0 n c _ Try.underlying56 hw hd hx h
end
end Go.Proofs.Ytopdmfhpakapiaa.X
