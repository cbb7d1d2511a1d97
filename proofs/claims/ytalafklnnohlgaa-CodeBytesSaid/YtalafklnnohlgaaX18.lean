/- A cell of a row of one's own is set. No condition: the rule holds of every program. -/
import Derived.Test.YtalafklnnohlgaaX12
namespace Go.Proofs.Ytalafklnnohlgaa.X
open Go.RowKit
set_option linter.unusedVariables false
set_option linter.unusedSimpArgs false
section
variable {P : Program} {E : Env} {N : Nat} {m : List (Nat × Value)} {H : List Ck} {Q : Exit → Act → World → Prop} {ops : Array Oper} {rest : List Oper}
variable {ty t t2 : TypeId} {pos : String} {af : Array Edge} {g : Option (Nat × Bool)} {d : Nat} {x y z : Operand}
/-- One cell of a row of one's own is set. -/
theorem WL.setrow (i e n c : Nat) (A : Option Addr) (ad : Addr) (xs : List Value) (j : Nat) (v : Value) (had : A = some ad) (hw : Wd ops m g = some true) (hx : ev m x = some (.pointer (some (ad.add (j * 1))))) (hy : ev m y = some v)
    (hi : H[i]? = some (.row (.slice A n c) e 1 n xs)) (hj : j < n) (hv : v.cells.toList = [v]) (h1 : v.oneCell' = true) (hs : ∀ w, (sizeOf t).run P w = .ok 1 w)
    (h : WL P E N ops Q m (H.set i (.row (.slice A n c) e 1 n (xs.set j v))) rest) : WL P E N ops Q m H (⟨none, .store t x y, ty, pos, af, g⟩ :: rest) := by
  intro a w hF hI
  refine wpList_on (Wd.spec hF hw) ?_
  obtain ⟨k1, k2⟩ := hI.ok _ (List.mem_of_getElem? hi)
  subst had
  rcases k2 with ⟨hv0, _⟩ | ⟨gb, cap, cur, hv0, h3, h4, h5, h6, h7, h8⟩
  · cases hv0
  cases hv0
  have hst := run_storeCells_at (P := P) gb j e [v] 0 cur w h4 (by simp; omega) (fun u hu => by simp at hu; subst hu; exact h1)
  simp only [Nat.add_zero] at hst
  have had : (⟨gb, 0, none⟩ : Addr).add (j * 1) = ⟨gb, j, none⟩ := by rw [add_at, Nat.zero_add, Nat.mul_one]
  have hsz : v.cells.size = 1 := by have := congrArg List.length hv; simpa using this
  have hlist : cur.toList.take j ++ [v] ++ cur.toList.drop (j + 1) = cur.toList.set j v := by
    rw [List.set_eq_take_append_cons_drop, if_pos (by simp; omega)]; simp
  have hrun : (execOp a.eval ⟨none, .store t x y, ty, pos, af, g⟩).run P w = .ok .skip (w.setRow gb (cur.toList.set j v).toArray) := by
    rw [← hlist]
    simp only [execOp, hF.eval hx, hF.eval hy, Instr.storeAt, Instr.sureAddr, storeVar, had]
    simp [hs w, hsz, hv, hst]
  unfold Oper.wp
  rw [hrun, Oper.upon_skip]
  refine h _ _ hF (hI.change hi (grownBy_setRow w gb _) ⟨by simpa using k1, .inr ⟨gb, c, _, rfl, Nat.zero_le _, setRow_heap w gb cur _ e _ h4, h5, h6, by simpa using h7, ?_⟩⟩ (fun k hk => .inl hk))
  simp only [List.toList_toArray]
  rw [← h8, List.take_set]
end
end Go.Proofs.Ytalafklnnohlgaa.X
