/- CodeBack: the walk out of what the arguments read as. No condition of its own. -/
import Derived.Test.YtalafklnnohlgaaCod15
namespace Go.Proofs.Ytalafklnnohlgaa
open Go.RowKit X Cod
set_option linter.unusedVariables false
set_option linter.unusedSimpArgs false
theorem CodeBack_walk {T : Type} {enc : TypeId × Value → T} (W : World) (l0 : Array Value) (a : Option Addr) (len cap : Nat) (h0 : Opn enc Try.prog W 37 l0.toList) (h1 : Opn enc Try.prog W 39 [.slice a len cap]) :
    Calls Try.prog 14 #[.agg l0, .slice a len cap] W fun e W' => e = .returned (.bool true) ∧ Below W.heap.size W W' := by
  obtain ⟨x, A6, c6, A27, c27, e0, k0, r0, _⟩ := ev_open h0
  obtain ⟨B, L, k, e1, k1, r1, b1⟩ := bytes_open h1
  have g0 : Value.agg l0 = evV x A6 c6 A27 c27 := by unfold evV; rw [← e0]
  simp only [List.cons.injEq, Value.slice.injEq, and_true] at e1
  obtain ⟨rfl, rfl, rfl⟩ := e1
  rw [g0]
  exact below_of (back_con x A6 A27 a c6 c27 cap L k0 k1 b1) W ⟨r0, r1⟩
end Go.Proofs.Ytalafklnnohlgaa
