/- CodeBytes: the walk out of what the argument reads as. No condition of its own. -/
import Derived.Test.YtalafklnnohlgaaCod28
namespace Go.Proofs.Ytalafklnnohlgaa
open Go.RowKit X Cod
set_option linter.unusedVariables false
set_option linter.unusedSimpArgs false
theorem CodeBytes_walk {T : Type} {enc : TypeId × Value → T} (W : World) (a : Option Addr) (len cap : Nat) (h0 : Opn enc Try.prog W 23 [.slice a len cap]) :
    Calls Try.prog 11 #[.slice a len cap] W fun e W' => e = .returned (.bool true) ∧ Below W.heap.size W W' := by
  obtain ⟨A, ms, c, e0, k0, r0, q0⟩ := rows_open h0
  simp only [List.cons.injEq, Value.slice.injEq, and_true] at e0
  obtain ⟨rfl, rfl, rfl⟩ := e0
  exact below_of (bytes_con a cap ms k0 q0) W r0
end Go.Proofs.Ytalafklnnohlgaa
