/- Rules for maps with whole numbers as keys: made, filled, looked up. No condition: every rule holds of every program. -/
import Derived.Test.YtalafklnnohlgaaX12
import Derived.MapKept
namespace Go.Proofs.Ytalafklnnohlgaa.X
open Go.RowKit Go.MapKept Go.Proofs.YtalafklnnohlgaaW.PrintLast
set_option linter.unusedVariables false
set_option linter.unusedSimpArgs false
section
variable {P : Program} {E : Env} {N : Nat} {m : List (Nat × Value)} {H : List Ck} {Q : Exit → Act → World → Prop} {ops : Array Oper} {rest : List Oper}
variable {ty t t2 : TypeId} {pos : String} {af : Array Edge} {g : Option (Nat × Bool)} {d : Nat} {x y z : Operand}

theorem WL.makeMap (hw : Wd ops m g = some true) (hd : d < N)
    (h : ∀ r, WL P E N ops Q ((d, .map (some r)) :: m) (.obj r (.map ([] : List MapEntry).toArray 0) :: H) rest) : WL P E N ops Q m H (⟨some d, .makeMap t none, ty, pos, af, g⟩ :: rest) :=
  WL.gen (fun v H' => ∃ r, v = .map (some r) ∧ H' = .obj r (.map ([] : List MapEntry).toArray 0) :: H) hw hd
    (fun a w hF hI => ⟨_, _, _, by
      simp only [execOp, Instr.makeMap]
      simp [newObj, Sem.run], ⟨_, rfl, rfl⟩, hI.add (World.grownBy_alloc w _ none) (heap_push w _) (fun k hk => by simp only [Ck.fp, Option.some.injEq] at hk; omega)⟩)
    (fun v H' hC => by obtain ⟨r, rfl, rfl⟩ := hC; exact h r)
theorem run_mapnew {w : World} {r clock : Nat} {l : List MapEntry} {kt et : TypeId} {q : IntKind} {a : Int} {v : Value} (ht : P.underlying t = some (.map kt et)) (hk : P.underlying kt = some (.int q)) (hb : w.heap[r]? = some (.map l.toArray clock)) (hn : Instr.findNow (.int q) (.int q a) l 0 = some none) :
    (Instr.mapUpdate t (.map (some r)) (.int q a) v).run P w = .ok () { w with heap := w.heap.setIfInBounds r (.map (l ++ [MapEntry.mk (.int q a) v clock]).toArray (clock + 1)) } := by
  unfold Instr.mapUpdate
  simp only [Sem.run_bind, run_underlying ht, Result.andThen, Go.MapKept.run_getObj_map hb, run_checkKey hk (show IsKey (.int q) (.int q a) by trivial), run_findKey hk hn]
  rw [Go.MapKept.run_setObj_map _ hb]
  simp
theorem grownBy_set (w : World) (r : Nat) (o : Obj) : w.grownBy { w with heap := w.heap.setIfInBounds r o } (some r) := ⟨rfl, rfl, rfl, by simp, fun k hk hne => by simp [show r ≠ k from fun e => hne (by rw [e])]⟩
theorem run_ins {op : Op} {d' : Option Nat} (i : Nat) {r clock : Nat} {l : List MapEntry} {kt et : TypeId} {q : IntKind} {a : Int} {v : Value} (hop : op = .insert t x y z ∨ op = .mapUpdate t x y z) (hx : ev m x = some (.map (some r))) (hy : ev m y = some (.int q a)) (hz : ev m z = some v)
    (hi : H[i]? = some (.obj r (.map l.toArray clock))) (ht : P.underlying t = some (.map kt et)) (hk : P.underlying kt = some (.int q)) (hn : Instr.findNow (.int q) (.int q a) l 0 = some none) :
    ∀ a' w, Fr N m a' → I E H w → ∃ w', (execOp a'.eval ⟨d', op, ty, pos, af, g⟩).run P w = .ok .skip w' ∧ I E (H.set i (.obj r (.map (l ++ [MapEntry.mk (.int q a) v clock]).toArray (clock + 1)))) w' := by
  intro a' w hF hI
  have hb : w.heap[r]? = some (.map l.toArray clock) := hI.ok _ (List.mem_of_getElem? hi)
  have hr := run_mapnew (v := v) ht hk hb hn
  refine ⟨_, ?_, hI.change (c' := .obj r (.map (l ++ [MapEntry.mk (.int q a) v clock]).toArray (clock + 1))) hi (grownBy_set w r (.map (l ++ [MapEntry.mk (.int q a) v clock]).toArray (clock + 1))) ?_ (fun k hk => .inl hk)⟩
  · rcases hop with rfl | rfl <;> (simp only [execOp, hF.eval hx, hF.eval hy, hF.eval hz]; simp [hr])
  · show (w.heap.setIfInBounds r _)[r]? = some _
    have hlt : r < w.heap.size := (Array.getElem?_eq_some_iff.1 hb).1
    simp [hlt]
theorem WL.insert (i : Nat) {r clock : Nat} {l : List MapEntry} {kt et : TypeId} {q : IntKind} {a : Int} {v : Value} (hw : Wd ops m g = some true) (hx : ev m x = some (.map (some r))) (hy : ev m y = some (.int q a)) (hz : ev m z = some v)
    (hi : H[i]? = some (.obj r (.map l.toArray clock))) (ht : P.underlying t = some (.map kt et)) (hk : P.underlying kt = some (.int q)) (hn : Instr.findNow (.int q) (.int q a) l 0 = some none)
    (h : WL P E N ops Q m (H.set i (.obj r (.map (l ++ [MapEntry.mk (.int q a) v clock]).toArray (clock + 1)))) rest) : WL P E N ops Q m H (⟨none, .insert t x y z, ty, pos, af, g⟩ :: rest) := by
  intro a' w hF hI
  refine wpList_on (Wd.spec hF hw) ?_
  obtain ⟨w', hrun, hI'⟩ := run_ins (ty := ty) (pos := pos) (af := af) (g := g) (d' := none) i (.inl rfl) hx hy hz hi ht hk hn a' w hF hI
  unfold Oper.wp
  rw [hrun, Oper.upon_skip]
  exact h _ _ hF hI'
theorem WL.mapUpd (i : Nat) {r clock : Nat} {l : List MapEntry} {kt et : TypeId} {q : IntKind} {a : Int} {v : Value} (hw : Wd ops m g = some true) (hx : ev m x = some (.map (some r))) (hy : ev m y = some (.int q a)) (hz : ev m z = some v)
    (hi : H[i]? = some (.obj r (.map l.toArray clock))) (ht : P.underlying t = some (.map kt et)) (hk : P.underlying kt = some (.int q)) (hn : Instr.findNow (.int q) (.int q a) l 0 = some none)
    (h : WL P E N ops Q m (H.set i (.obj r (.map (l ++ [MapEntry.mk (.int q a) v clock]).toArray (clock + 1)))) rest) : WL P E N ops Q m H (⟨none, .mapUpdate t x y z, ty, pos, af, g⟩ :: rest) := by
  intro a' w hF hI
  refine wpList_on (Wd.spec hF hw) ?_
  obtain ⟨w', hrun, hI'⟩ := run_ins (ty := ty) (pos := pos) (af := af) (g := g) (d' := none) i (.inr rfl) hx hy hz hi ht hk hn a' w hF hI
  unfold Oper.wp
  rw [hrun, Oper.upon_skip]
  exact h _ _ hF hI'

/-- What a map's rows answer. -/
def lkp (zero : Value) (a : Int) : List (Int × Value) → Value
  | [] => zero
  | p :: l => if a = p.1 then p.2 else lkp zero a l
theorem find_lkp (q : IntKind) (zero : Value) (a : Int) : ∀ (l : List MapEntry) (l' : List (Int × Value)) (i : Nat), l.map (fun e => (e.key, e.val)) = l'.map (fun p => (.int q p.1, p.2)) → ∃ o, Instr.findNow (.int q) (.int q a) l i = some o ∧ (match o with | some (_, v) => v | none => zero) = lkp zero a l' := by
  intro l
  induction l with
  | nil => intro l' i h; cases l' with
    | nil => exact ⟨none, rfl, rfl⟩
    | cons _ _ => simp at h
  | cons e l ih => intro l' i h; cases l' with
    | nil => simp at h
    | cons p l' =>
      simp only [List.map_cons, List.cons.injEq, Prod.mk.injEq] at h
      obtain ⟨⟨h1, h2⟩, h3⟩ := h
      by_cases ha : a = p.1
      · refine ⟨some (i, e.val), ?_, by simp [lkp, ha, h2]⟩
        unfold Instr.findNow
        rw [h1]
        simp [Instr.sameNow, ha]
      · obtain ⟨o, ho, hv⟩ := ih l' (i + 1) h3
        refine ⟨o, ?_, by rw [hv]; simp [lkp, ha]⟩
        unfold Instr.findNow
        rw [h1]
        simp [Instr.sameNow, ho, show (a == p.1) = false by simp [ha]]
theorem run_lkp {w : World} {r clock : Nat} {l : List MapEntry} {kt et : TypeId} {q : IntKind} {a : Int} {zero : Value} (l' : List (Int × Value)) (ht : P.underlying t = some (.map kt et)) (hk : P.underlying kt = some (.int q)) (hz : ∀ w, (zeroValue et).run P w = .ok zero w) (hb : w.heap[r]? = some (.map l.toArray clock)) (hl : l.map (fun e => (e.key, e.val)) = l'.map (fun p => (.int q p.1, p.2))) :
    (Instr.lookup t (.map (some r)) (.int q a) false).run P w = .ok (lkp zero a l') w := by
  obtain ⟨o, ho, hv⟩ := find_lkp q zero a l l' 0 hl
  unfold Instr.lookup
  simp only [Sem.run_bind, run_underlying ht, Result.andThen, Go.MapKept.run_getObj_map hb, run_checkKey hk (show IsKey (.int q) (.int q a) by trivial), run_findKey hk ho]
  cases o with
  | none => simp [run_findKey hk ho, hz w, ← hv]
  | some p => simp [run_findKey hk ho, ← hv]
theorem run_lkp_op (i : Nat) {r clock : Nat} {l : List MapEntry} {kt et : TypeId} {q : IntKind} {a : Int} {zero : Value} (l' : List (Int × Value)) (hx : ev m x = some (.map (some r))) (hy : ev m y = some (.int q a)) (hi : H[i]? = some (.obj r (.map l.toArray clock)))
    (ht : P.underlying t = some (.map kt et)) (hk : P.underlying kt = some (.int q)) (hz : ∀ w, (zeroValue et).run P w = .ok zero w) (hl : l.map (fun e => (e.key, e.val)) = l'.map (fun p => (.int q p.1, p.2))) :
    ∀ a' w, Fr N m a' → I E H w → ∃ v w' H', (execOp a'.eval ⟨some d, .lookup t x y false, ty, pos, af, g⟩).run P w = .ok (.value v) w' ∧ (v = lkp zero a l' ∧ H' = H) ∧ I E H' w' := fun a' w hF hI =>
  ⟨_, w, H, by
    have hb : w.heap[r]? = some (.map l.toArray clock) := hI.ok _ (List.mem_of_getElem? hi)
    simp only [execOp, hF.eval hx, hF.eval hy]
    simp [run_lkp l' ht hk hz hb hl], ⟨rfl, rfl⟩, hI⟩
theorem WA.lookup {HS : List Ck} {ds : List Nat} {fuel : Nat} {ls : Array Bool} (i : Nat) (l0 : Array Bool) (k : Nat) {r clock : Nat} {l : List MapEntry} {kt et : TypeId} {q : IntKind} {a : Int} {zero : Value} (l' : List (Int × Value)) (hi : ops[i]? = some ⟨some d, .lookup t x y false, ty, pos, af, g⟩) (hw : Wd ops m g = some true) (hd : d < N) (hcb : readyB .any ops ls l0 i = true) (hds : List.contains ds i = false) (hs : HS.Sublist H)
    (hx : ev m x = some (.map (some r))) (hy : ev m y = some (.int q a)) (hk : H[k]? = some (.obj r (.map l.toArray clock)))
    (ht : P.underlying t = some (.map kt et)) (hkt : P.underlying kt = some (.int q)) (hz : ∀ w, (zeroValue et).run P w = .ok zero w) (hl : l.map (fun e => (e.key, e.val)) = l'.map (fun p => (.int q p.1, p.2)))
    (h : WA P E N ops Q HS ds fuel l0 ((d, lkp zero a l') :: m) H) : WA P E N ops Q HS ds (fuel + 1) ls m H :=
  WA.gen i l0 (fun v H' => v = lkp zero a l' ∧ H' = H) hi hw hd hcb hds (run_lkp_op k l' hx hy hk ht hkt hz hl) (fun v H' hC => by obtain ⟨rfl, rfl⟩ := hC; exact ⟨hs, h⟩)
end
end Go.Proofs.Ytalafklnnohlgaa.X
