/- A rule: two operations either of which may come. No condition: the rule holds of every program. -/
import Derived.Test.YtalafklnnohlgaaX14
namespace Go.Proofs.Ytalafklnnohlgaa.X
open Go.RowKit Go.Proofs.YtalafklnnohlgaaW.PrintLast
set_option linter.unusedVariables false
set_option linter.unusedSimpArgs false
section
variable {P : Program} {E : Env} {N : Nat} {m : List (Nat × Value)} {H : List Ck} {Q : Exit → Act → World → Prop} {ops : Array Oper} {HS : List Ck} {ds : List Nat} {fuel : Nat}
variable {ty t : TypeId} {pos : String} {af : Array Edge} {g : Option (Nat × Bool)} {d : Nat}
/-- What an operation's coming up asks. -/
def St (P : Program) (E : Env) (N : Nat) (ops : Array Oper) (Q : Exit → Act → World → Prop) (HS : List Ck) (ds : List Nat) (fuel : Nat) (l' : Array Bool) (m : List (Nat × Value)) (H : List Ck) (o : Oper) : Prop :=
  ∀ a w, Fr N m a → I E H w → ∀ K : Act → World → Prop, (∀ m' H' a' w', Fr N m' a' → I E H' w' → HS.Sublist H' → WA P E N ops Q HS ds fuel l' m' H' → K a' w') → o.wp P a w K Q
theorem WA.two {l : Array Bool} {o1 o2 : Oper} (i j : Nat) (li lj : Array Bool) (hi : ops[i]? = some o1) (hj : ops[j]? = some o2) (hwi : Wd ops m o1.guard = some true) (hwj : Wd ops m o2.guard = some true)
    (hc : (Region.ready .any ops l == [i, j] && l.setIfInBounds i true == li && l.setIfInBounds j true == lj) = true) (hdi : List.contains ds i = false) (hdj : List.contains ds j = false)
    (h1 : St P E N ops Q HS ds fuel li m H o1) (h2 : St P E N ops Q HS ds fuel lj m H o2) : WA P E N ops Q HS ds (fuel + 1) l m H := fun a w hF hI => by
  refine two_ li lj hi hj rfl rfl hc (by simpa using hdi) (by simpa using hdj) (fun K hK => ?_) (fun K hK => ?_)
  · rw [if_pos (Wd.spec hF hwi)]
    exact h1 a w hF hI K (fun m' H' a' w' hF' hI' hs hW => hK.out _ _ (oks_of hI' hs) (fun _ => hW _ _ hF' hI'))
  · rw [if_pos (Wd.spec hF hwj)]
    exact h2 a w hF hI K (fun m' H' a' w' hF' hI' hs hW => hK.out _ _ (oks_of hI' hs) (fun _ => hW _ _ hF' hI'))
theorem St.call {l' : Array Bool} {x : Operand} {ts : Array TypeId} {ss : List Operand} {f : FuncId} {fn : Func} (first cap vs : List Value) (args : Array Value) (H1 Hf : List Ck) {R : World → Prop} {C : Value → List Ck → Prop} (hc : Con P f args H1 R C)
    (hd : d < N) (hx : ev m x = some (.func (.func f) first.toArray cap.toArray)) (hf : P.funcs[f]? = some fn) (hname : (fn.name == "runtime.NumGoroutine") = false) (hb : fn.body.isSome = true)
    (has : ss.map (ev m) = vs.map some) (hargs : (first ++ vs ++ cap).toArray = args) (hp : (H1 ++ Hf).Perm H) (hR : ∀ w, I E H w → R w)
    (h : ∀ v H1', C v H1' → HS.Sublist (H1' ++ Hf) ∧ WA P E N ops Q HS ds fuel l' ((d, v) :: m) (H1' ++ Hf)) : St P E N ops Q HS ds fuel l' m H ⟨some d, .call { callee := .value x, args := ss.toArray, argTypes := ts }, ty, pos, af, g⟩ := fun a w hF hI K hK => by
  unfold Oper.wp
  rw [run_call (args := args) hf hname hb (hF.eval hx) (by rw [List.map_toArray, evals hF _ _ has, ← hargs]; simp), Oper.upon_enter]
  have hI2 := hI.perm hp
  have hpw := List.pairwise_append.1 hI2.dj
  refine (hc w (fun c hc => hI2.ok c (List.mem_append_left _ hc)) hpw.1 (hR w hI)).mono ?_
  rintro e w' ⟨v, H1', hC, rfl, hI'⟩
  exact hK _ _ _ _ (hF.put hd v) (hI2.frame hI') (h v H1' hC).1 (h v H1' hC).2
theorem St.alloc {l' : Array Bool} (z : Value) (cs : List Value) (hd : d < N) (hz : ∀ w, (zeroValue t).run P w = .ok z w) (hc : z.cells.toList = cs) (hs : HS.Sublist H)
    (h : ∀ gb, WA P E N ops Q HS ds fuel l' ((d, .pointer (some ⟨gb, 0, none⟩)) :: m) (.blk gb cs t :: H)) : St P E N ops Q HS ds fuel l' m H ⟨some d, .alloc t, ty, pos, af, g⟩ := fun a w hF hI K hK => by
  have hrun : (execOp a.eval ⟨some d, .alloc t, ty, pos, af, g⟩).run P w = .ok (.value (.pointer (some ⟨w.heap.size, 0, none⟩))) (w.alloc (.cells cs.toArray t (0, 0))) := by
    rw [← hc]
    simp only [execOp, Instr.alloc]
    simp [hz w, newVar, newRow, newObj, Sem.run]
  unfold Oper.wp
  rw [hrun, Oper.upon_value]
  exact hK _ _ _ _ (hF.put hd _) (hI.add (c := .blk w.heap.size cs t) (World.grownBy_alloc w _ none) (heap_push w _) (fun q hq => by simp only [Ck.fp, Option.some.injEq] at hq; omega)) (.cons _ hs) (h _)
end
end Go.Proofs.Ytalafklnnohlgaa.X
