/- The logic's rules for a region whose order is drawn: its operations in one order, each checked to be free to come then. No condition: every rule holds of every program. -/
import Derived.Test.YtalafklnnohlgaaX2
import Derived.Test.YtalafklnnohlgaaWLast
namespace Go.Proofs.Ytalafklnnohlgaa.X
open Go.RowKit Go.Proofs.YtalafklnnohlgaaW.PrintLast
set_option linter.unusedVariables false
set_option linter.unusedSimpArgs false

section
variable {P : Program} {E : Env} {N : Nat} {m : List (Nat × Value)} {H : List Ck} {Q : Exit → Act → World → Prop} {ops : Array Oper} {HS : List Ck} {ds : List Nat} {fuel : Nat} {l : Array Bool}

/-- What stands from the region's begin to its last store. -/
def Oks (E : Env) (HS : List Ck) (w : World) : Prop := (∀ c ∈ HS, c.ok w) ∧ Kept E w
def WA (P : Program) (E : Env) (N : Nat) (ops : Array Oper) (Q : Exit → Act → World → Prop) (HS : List Ck) (ds : List Nat) (fuel : Nat) (l : Array Bool) (m : List (Nat × Value)) (H : List Ck) : Prop :=
  ∀ a w, Fr N m a → I E H w → wpAnyLast P .any ops Q (Oks E HS) ds fuel l a w

theorem grownBy_drew (w : World) : w.grownBy w.drew none := ⟨rfl, rfl, rfl, Nat.le_refl _, fun _ _ _ => rfl⟩
theorem oks_of {w : World} (hI : I E H w) (hs : HS.Sublist H) : Oks E HS w := ⟨fun c hc => hI.ok c (hs.subset hc), hI.kp⟩

theorem WC.draw {id : Nat} {os : List Oper} (n : Nat) (l : Array Bool) (HS : List Ck) (ds : List Nat) (hm : P.follows .mixedOrders = true) (hn : os.toArray.size = n) (hl : Array.replicate n false = l) (hs : HS.Sublist H)
    (h : WA P E N os.toArray Q HS ds n l m H) : WC P E N Q m H (.region id os.toArray true) := fun a w hF hI => by
  have hI' : I E H w.drew := hI.same (grownBy_drew w)
  exact start_ l hm hn hl (oks_of hI' hs) (fun _ => h a w.drew hF hI')

def Qp (Q : Exit → Act → World → Prop) : Prop := ∀ d v c a w, Q (.panic c) (Act.put a d v) w → Q (.panic c) a w

theorem WA.done (hr : (Region.ready .any ops l == []) = true) (h : QE E N Q .normal m H) : WA P E N ops Q HS ds fuel l m H := fun a w hF hI => done_ hr (h a w hF hI)
theorem WA.know {s : Nat} {u : Value} (v : Value) (hs : lk m s = some u) (e : u = v) (h : WA P E N ops Q HS ds fuel l ((s, v) :: m) H) : WA P E N ops Q HS ds fuel l m H := by
  subst e
  refine fun a w hF hI => h a w ⟨hF.size, hF.defers, fun i x hx => ?_⟩ hI
  simp only [lk] at hx
  cases hb : Nat.beq s i with
  | true => rw [hb] at hx; have := Nat.eq_of_beq_eq_true hb; subst this; simp at hx; subst hx; exact hF.get _ _ hs
  | false => rw [hb] at hx; exact hF.get _ _ hx

/-- An operation that yields whatever the world. -/
theorem WA.val {op : Op} {ty : TypeId} {pos : String} {af : Array Edge} {g : Option (Nat × Bool)} {d : Nat} (i : Nat) (l' : Array Bool) (v : Value) (hi : ops[i]? = some ⟨some d, op, ty, pos, af, g⟩) (hw : Wd ops m g = some true) (hd : d < N) (hc : anyB .any ops l l' i = true) (hQ : Qp Q)
    (hrun : ∀ a w, Fr N m a → (execOp a.eval ⟨some d, op, ty, pos, af, g⟩).run P w = .ok (.value v) w)
    (h : WA P E N ops Q HS ds fuel l' ((d, v) :: m) H) : WA P E N ops Q HS ds (fuel + 1) l m H := fun a w hF hI =>
  pure_ l' hi rfl hc (fun c a w hh => hQ _ _ c a w hh) (.inl ⟨Wd.spec hF hw, fun w' => hrun a w' hF⟩) rfl (h _ _ (hF.put hd v) hI)
theorem WA.off {op : Op} {ty : TypeId} {pos : String} {af : Array Edge} {g : Option (Nat × Bool)} {d : Nat} (i : Nat) (l' : Array Bool) (hi : ops[i]? = some ⟨some d, op, ty, pos, af, g⟩) (hw : Wd ops m g = some false) (hd : d < N) (hc : anyB .any ops l l' i = true) (hQ : Qp Q)
    (h : WA P E N ops Q HS ds fuel l' ((d, undef) :: m) H) : WA P E N ops Q HS ds (fuel + 1) l m H := fun a w hF hI =>
  pure_ l' hi rfl hc (fun c a w hh => hQ _ _ c a w hh) (.inr ⟨Wd.spec hF hw, rfl⟩) rfl (h _ _ (hF.put hd undef) hI)
/-- An operation that yields wherever HS stands. -/
theorem WA.held {op : Op} {ty : TypeId} {pos : String} {af : Array Edge} {g : Option (Nat × Bool)} {d : Nat} (i : Nat) (l' : Array Bool) (v : Value) (hi : ops[i]? = some ⟨some d, op, ty, pos, af, g⟩) (hw : Wd ops m g = some true) (hd : d < N) (hs : HS.Sublist H) (hc : takeB .any ops ds l l' i = true) (hQ : Qp Q)
    (hrun : ∀ a w, Fr N m a → Oks E HS w → (execOp a.eval ⟨some d, op, ty, pos, af, g⟩).run P w = .ok (.value v) w)
    (h : WA P E N ops Q HS ds fuel l' ((d, v) :: m) H) : WA P E N ops Q HS ds (fuel + 1) l m H := fun a w hF hI =>
  take_ l' hi rfl hc (fun c a w hh => hQ _ _ c a w hh) (.inl ⟨Wd.spec hF hw, fun w' hS => hrun a w' hF hS⟩) (oks_of hI hs) rfl (h _ _ (hF.put hd v) hI)
/-- The one operation that may come now; it may change memory, HS apart. -/
theorem WA.one {o : Oper} (i : Nat) (l' : Array Bool) (hi : ops[i]? = some o) (hw : Wd ops m o.guard = some true) (hc : readyB .any ops l l' i = true) (hd : List.contains ds i = false)
    (h : ∀ a w, Fr N m a → I E H w → ∀ K : Act → World → Prop, (∀ m' H' a' w', Fr N m' a' → I E H' w' → HS.Sublist H' → WA P E N ops Q HS ds fuel l' m' H' → K a' w') → o.wp P a w K Q) : WA P E N ops Q HS ds (fuel + 1) l m H := fun a w hF hI => by
  refine one_ l' hi rfl hc (by simpa using hd) (fun K hK => ?_)
  rw [if_pos (Wd.spec hF hw)]
  exact h a w hF hI K (fun m' H' a' w' hF' hI' hs hW => hK.out _ _ (oks_of hI' hs) (fun _ => hW _ _ hF' hI'))
/-- The same, of those behind which HS need not stand. -/
theorem WA.last {o : Oper} (i : Nat) (l' : Array Bool) (hi : ops[i]? = some o) (hw : Wd ops m o.guard = some true) (hc : readyB .any ops l l' i = true) (hd : List.contains ds i = true)
    (h : ∀ a w, Fr N m a → I E H w → ∀ K : Act → World → Prop, (∀ m' H' a' w', Fr N m' a' → I E H' w' → WA P E N ops Q HS ds fuel l' m' H' → K a' w') → o.wp P a w K Q) : WA P E N ops Q HS ds (fuel + 1) l m H := fun a w hF hI => by
  refine last_ l' hi rfl hc (by simpa using hd) (fun K hK => ?_)
  rw [if_pos (Wd.spec hF hw)]
  exact h a w hF hI K (fun m' H' a' w' hF' hI' hW => hK.out _ _ (hW _ _ hF' hI'))
end
end Go.Proofs.Ytalafklnnohlgaa.X
