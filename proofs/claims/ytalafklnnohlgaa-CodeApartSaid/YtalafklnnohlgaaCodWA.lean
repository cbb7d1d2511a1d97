/- CodeApart: the walk out of what the arguments read as. No condition of its own. -/
import Derived.Test.YtalafklnnohlgaaCod14
namespace Go.Proofs.Ytalafklnnohlgaa
open Go.RowKit X Cod
set_option linter.unusedVariables false
set_option linter.unusedSimpArgs false
theorem CodeApart_walk {T : Type} {enc : TypeId × Value → T} (W : World) (l0 l1 : Array Value) (h0 : Opn enc Try.prog W 37 l0.toList) (h1 : Opn enc Try.prog W 37 l1.toList) :
    Calls Try.prog 12 #[.agg l0, .agg l1] W fun e W' => e = .returned (.bool true) ∧ Below W.heap.size W W' := by
  obtain ⟨x, A6, c6, A27, c27, e0, k0, r0, _⟩ := ev_open h0
  obtain ⟨z, B6, k6, B27, k27, e1, k1, r1, _⟩ := ev_open h1
  have g0 : Value.agg l0 = evV x A6 c6 A27 c27 := by unfold evV; rw [← e0]
  have g1 : Value.agg l1 = evV z B6 k6 B27 k27 := by unfold evV; rw [← e1]
  rw [g0, g1]
  exact below_of (apart_con x z A6 A27 B6 B27 c6 c27 k6 k27 k0 k1) W ⟨r0, r1⟩
end Go.Proofs.Ytalafklnnohlgaa
