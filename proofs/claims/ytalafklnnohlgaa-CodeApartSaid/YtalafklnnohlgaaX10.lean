/- A cut behind the first part of a sequence. No condition: the rule holds of every program. -/
import Derived.Test.YtalafklnnohlgaaX9
namespace Go.Proofs.Ytalafklnnohlgaa.X
open Go.RowKit
set_option linter.unusedVariables false
section
variable {P : Program} {E : Env} {N : Nat} {m : List (Nat × Value)} {H : List Ck} {Q : Exit → Act → World → Prop}
/-- What follows is shown once, from the states that the first part may leave. -/
theorem WC.cut {σ : Type} {x y : Code} (mf : σ → List (Nat × Value)) (Hf : σ → List Ck) (ok : σ → Prop) (h2 : ∀ s, ok s → WC P E N Q (mf s) (Hf s) y)
    (h1 : WC P E N (Exit.then (fun a w => ∃ s, ok s ∧ Fr N (mf s) a ∧ I E (Hf s) w) Q) m H x) : WC P E N Q m H (.seq x y) := fun a w hF hI =>
  wp_seq (wp_mono (h1 a w hF hI) (fun e a' w' hq => by
    cases e with
    | normal => obtain ⟨s, hs, hF', hI'⟩ := hq; exact h2 s hs a' w' hF' hI'
    | exit id => exact hq
    | goto l => exact hq
    | ret => exact hq
    | panic ch => exact hq
    | outgrown => exact hq))
theorem QE.cut {σ : Type} {mf : σ → List (Nat × Value)} {Hf : σ → List Ck} {ok : σ → Prop} (s : σ) (hs : ok s) (hm : Sub m (mf s)) (hH : (Hf s).Sublist H) : QE E N (Exit.then (fun a w => ∃ s, ok s ∧ Fr N (mf s) a ∧ I E (Hf s) w) Q) .normal m H :=
  fun a w hF hI => ⟨s, hs, hF.less hm.spec, hI.sub hH⟩
/-- An operation whose guard was not carried out itself. -/
theorem WL.offu {ops : Array Oper} {rest : List Oper} {op : Op} {ty : TypeId} {pos : String} {af : Array Edge} {i : Nat} {b : Bool} {d : Nat} (hs : ((ops[i]?).bind (·.dst)).bind (lk m) = some undef) (hd : d < N)
    (h : WL P E N ops Q ((d, undef) :: m) H rest) : WL P E N ops Q m H (⟨some d, op, ty, pos, af, some (i, b)⟩ :: rest) := fun a w hF hI =>
  wpList_off (by
    obtain ⟨s, h1, h2⟩ := Option.bind_eq_some_iff.1 hs
    have : yielded ops a.tmps i = none := by
      unfold yielded
      rw [h1, Option.bind_some, hF.get s _ h2]
      rfl
    simp [Region.wanted, this]) (h _ _ (hF.put hd undef) hI)
end
end Go.Proofs.Ytalafklnnohlgaa.X
