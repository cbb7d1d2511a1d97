/- CodeList: the walk out of what the arguments read as. No condition of its own. -/
import Derived.Test.YtalafklnnohlgaaCod18
namespace Go.Proofs.Ytalafklnnohlgaa
open Go.RowKit X Cod
set_option linter.unusedVariables false
set_option linter.unusedSimpArgs false
theorem CodeList_walk {T : Type} {enc : TypeId × Value → T} (W : World) (a : Option Addr) (len cap : Nat) (b : Option Addr) (len2 cap2 : Nat) (h0 : Opn enc Try.prog W 22 [.slice a len cap]) (h1 : Opn enc Try.prog W 39 [.slice b len2 cap2]) :
    Calls Try.prog 4 #[.slice a len cap, .slice b len2 cap2] W fun e W' => e = .returned (.bool true) ∧ Below W.heap.size W W' := by
  obtain ⟨A, ms, c, e0, k0, r0, q0⟩ := evs_open h0
  obtain ⟨B, L, k, e1, k1, r1, b1⟩ := bytes_open h1
  simp only [List.cons.injEq, Value.slice.injEq, and_true] at e0 e1
  obtain ⟨rfl, rfl, rfl⟩ := e0
  obtain ⟨rfl, rfl, rfl⟩ := e1
  exact below_of (list_con a b cap cap2 ms L k0 (fun m hm => (q0 m hm).1) k1 b1) W ⟨⟨r0, fun m hm => (q0 m hm).2.1⟩, r1⟩
end Go.Proofs.Ytalafklnnohlgaa
