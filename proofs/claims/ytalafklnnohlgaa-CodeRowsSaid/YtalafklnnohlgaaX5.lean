/- The logic's rules for numbers that need a condition, and wraps. No condition of its own. -/
import Derived.Test.YtalafklnnohlgaaX4
namespace Go.Proofs.Ytalafklnnohlgaa.X
open Go.RowKit
set_option linter.unusedVariables false
set_option linter.unusedSimpArgs false

theorem Sub.eq {m : List (Nat × Value)} {i : Nat} {u v : Value} {r : List (Nat × Value)} (h : lk m i = some u) (e : u = v) (s : Sub m r) : Sub m ((i, v) :: r) := .cons (e ▸ h) s

theorem wr_u64 {x : Int} (h0 : 0 ≤ x) (h1 : x < 18446744073709551616) : IntKind.u64.wrap x = x := by
  simp only [IntKind.wrap, IntKind.bits, IntKind.signed]; simp; omega
theorem wr_i64 {x : Int} (h0 : -9223372036854775808 ≤ x) (h1 : x < 9223372036854775808) : IntKind.i64.wrap x = x := by
  rw [IntKind.wrap_i64]; omega
theorem wr_u8 (x : Int) : IntKind.u8.wrap x = x % 256 := by simp [IntKind.wrap, IntKind.bits, IntKind.signed]
theorem wr_u16 (x : Int) : IntKind.u16.wrap x = x % 65536 := by simp [IntKind.wrap, IntKind.bits, IntKind.signed]
theorem wr_u32 (x : Int) : IntKind.u32.wrap x = x % 4294967296 := by simp [IntKind.wrap, IntKind.bits, IntKind.signed]
theorem wr_u64' (x : Int) : IntKind.u64.wrap x = x % 18446744073709551616 := by simp [IntKind.wrap, IntKind.bits, IntKind.signed]

section
variable {P : Program} {E : Env} {N : Nat} {m : List (Nat × Value)} {H : List Ck} {Q : Exit → Act → World → Prop} {ops : Array Oper} {rest : List Oper}
variable {ty t t2 : TypeId} {pos : String} {af : Array Edge} {g : Option (Nat × Bool)} {d : Nat} {x y : Operand}

theorem run_quo (k : IntKind) (a b : Int) (hb : b ≠ 0) (w : World) : (do eqGuard .quo t x y (.int k a) (.int k b); binOp .quo t (.int k a) (.int k b) : Sem Value).run P w = .ok (.int k (k.wrap (a.tdiv b))) w := by
  simp [eqGuard, binOp, Op.intDiv, hb]
theorem run_rem (k : IntKind) (a b : Int) (hb : b ≠ 0) (w : World) : (do eqGuard .rem t x y (.int k a) (.int k b); binOp .rem t (.int k a) (.int k b) : Sem Value).run P w = .ok (.int k (a.tmod b)) w := by
  simp [eqGuard, binOp, Op.intDiv, hb]
theorem run_shl (k ky : IntKind) (a b : Int) (hb : 0 ≤ b) (w : World) : (do eqGuard .shl t x y (.int k a) (.int ky b); binOp .shl t (.int k a) (.int ky b) : Sem Value).run P w = .ok (.int k (k.wrap (a * 2 ^ (min b.toNat k.bits)))) w := by
  simp [eqGuard, binOp, Op.shift, show ¬ b < 0 by omega]
theorem run_shr (k ky : IntKind) (a b : Int) (hb : 0 ≤ b) (w : World) : (do eqGuard .shr t x y (.int k a) (.int ky b); binOp .shr t (.int k a) (.int ky b) : Sem Value).run P w = .ok (.int k (a.fdiv (2 ^ (min b.toNat k.bits)))) w := by
  simp [eqGuard, binOp, Op.shift, show ¬ b < 0 by omega]
theorem run_conv {s u : TypeId} {ds : TypeDesc} (k k' : IntKind) (n : Int) (hs : P.underlying s = some ds) (hu : P.underlying u = some (.int k')) (w : World) : (convert s u (.int k n)).run P w = .ok (.int k' (k'.wrap n)) w := by
  simp only [convert, Sem.run_bind, run_underlying hs, run_underlying hu, Result.andThen_ok]
  cases ds <;> rfl

theorem WL.quo (k : IntKind) (a b v : Int) (hw : Wd ops m g = some true) (hd : d < N) (hx : ev m x = some (.int k a)) (hy : ev m y = some (.int k b)) (hb : b ≠ 0) (hv : k.wrap (a.tdiv b) = v) (h : WL P E N ops Q ((d, .int k v) :: m) H rest) : WL P E N ops Q m H (⟨some d, .binOp .quo t x y t2, ty, pos, af, g⟩ :: rest) :=
  WL.bin _ _ _ hw hd hx hy (fun w => by rw [run_quo k a b hb w, hv]) h
theorem WL.rem (k : IntKind) (a b v : Int) (hw : Wd ops m g = some true) (hd : d < N) (hx : ev m x = some (.int k a)) (hy : ev m y = some (.int k b)) (hb : b ≠ 0) (hv : a.tmod b = v) (h : WL P E N ops Q ((d, .int k v) :: m) H rest) : WL P E N ops Q m H (⟨some d, .binOp .rem t x y t2, ty, pos, af, g⟩ :: rest) :=
  WL.bin _ _ _ hw hd hx hy (fun w => by rw [run_rem k a b hb w, hv]) h
theorem WL.shl (k ky : IntKind) (a b v : Int) (hw : Wd ops m g = some true) (hd : d < N) (hx : ev m x = some (.int k a)) (hy : ev m y = some (.int ky b)) (hb : 0 ≤ b) (hv : k.wrap (a * 2 ^ (min b.toNat k.bits)) = v) (h : WL P E N ops Q ((d, .int k v) :: m) H rest) : WL P E N ops Q m H (⟨some d, .binOp .shl t x y t2, ty, pos, af, g⟩ :: rest) :=
  WL.bin _ _ _ hw hd hx hy (fun w => by rw [run_shl k ky a b hb w, hv]) h
theorem WL.shr (k ky : IntKind) (a b v : Int) (hw : Wd ops m g = some true) (hd : d < N) (hx : ev m x = some (.int k a)) (hy : ev m y = some (.int ky b)) (hb : 0 ≤ b) (hv : a.fdiv (2 ^ (min b.toNat k.bits)) = v) (h : WL P E N ops Q ((d, .int k v) :: m) H rest) : WL P E N ops Q m H (⟨some d, .binOp .shr t x y t2, ty, pos, af, g⟩ :: rest) :=
  WL.bin _ _ _ hw hd hx hy (fun w => by rw [run_shr k ky a b hb w, hv]) h
theorem WL.convi {s u : TypeId} (ds : TypeDesc) (k k' : IntKind) (n v : Int) (hw : Wd ops m g = some true) (hd : d < N) (hx : ev m x = some (.int k n)) (hs : P.underlying s = some ds) (hu : P.underlying u = some (.int k')) (hv : k'.wrap n = v) (h : WL P E N ops Q ((d, .int k' v) :: m) H rest) : WL P E N ops Q m H (⟨some d, .convert s u x, ty, pos, af, g⟩ :: rest) :=
  WL.conv _ _ hw hd hx (fun w => by rw [run_conv k k' n hs hu w, hv]) h
end
end Go.Proofs.Ytalafklnnohlgaa.X
