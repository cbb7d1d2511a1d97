/- Rules: new variables that come in whatever order; a result that stands in memory. No condition: every rule holds of every program. -/
import Derived.Test.YtalafklnnohlgaaX13
import Derived.Laws.ResultCell
namespace Go.Proofs.Ytalafklnnohlgaa.X
open Go.RowKit Go.Proofs.YtalafklnnohlgaaW.PrintLast
set_option linter.unusedVariables false
set_option linter.unusedSimpArgs false

/-- A new variable: its operation, its slot, its cells. -/
structure Al where
  i : Nat
  d : Nat
  t : TypeId
  cs : List Value
def chkA (ops : Array Oper) : Nat → List Nat → Array Bool → Array Bool → Bool
  | 0, is, l, l' => is.isEmpty && l == l'
  | n + 1, is, l, l' => bif is.isEmpty then l == l' else (Region.ready .any ops l == is) && (List.range is.length).all (fun k => chkA ops n (is.eraseIdx k) (l.setIfInBounds (is.getD k 0) true) l')
def okA (P : Program) (ops : Array Oper) (N : Nat) (ds : List Nat) (p : Al) : Prop :=
  (∃ ty pos af, ops[p.i]? = some ⟨some p.d, .alloc p.t, ty, pos, af, none⟩) ∧ p.d < N ∧ List.contains ds p.i = false ∧ ∃ z : Value, (∀ w, (zeroValue p.t).run P w = .ok z w) ∧ z.cells.toList = p.cs
def slA (g : Nat → Nat) (ps : List Al) (m : List (Nat × Value)) : List (Nat × Value) := ps.map (fun p => (p.d, Value.pointer (some ⟨g p.d, 0, none⟩))) ++ m
def ckA (g : Nat → Nat) (ps : List Al) (H : List Ck) : List Ck := ps.map (fun p => .blk (g p.d) p.cs p.t) ++ H
theorem lk_slA (g : Nat → Nat) (ps : List Al) (m : List (Nat × Value)) (i : Nat) : lk (slA g ps m) i = if i ∈ ps.map (·.d) then some (.pointer (some ⟨g i, 0, none⟩)) else lk m i := by
  induction ps with
  | nil => simp [slA]
  | cons p ps ih =>
    simp only [slA, List.map_cons, List.cons_append, lk, List.mem_cons] at ih ⊢
    cases hb : Nat.beq p.d i with
    | true => have := Nat.eq_of_beq_eq_true hb; subst this; simp
    | false =>
      have hne : i ≠ p.d := fun e => by subst e; simp at hb
      simp only [cond_false, ih, hne, false_or]

section
variable {P : Program} {E : Env} {N : Nat} {Q : Exit → Act → World → Prop} {ops : Array Oper} {HS : List Ck} {ds : List Nat}
theorem map_erase {α β : Type} (f : α → β) : ∀ (l : List α) (k : Nat), (l.eraseIdx k).map f = (l.map f).eraseIdx k
  | [], k => by simp
  | a :: l, 0 => by simp
  | a :: l, k + 1 => by simp [map_erase f l k]
theorem perm_erase {α : Type} : ∀ (l : List α) (k : Nat) (h : k < l.length), (l[k] :: l.eraseIdx k).Perm l
  | [], k, h => by simp at h
  | a :: l, 0, h => by simp
  | a :: l, k + 1, h => (List.Perm.swap a (l[k]'(by simpa using h)) (l.eraseIdx k)).trans (.cons a (perm_erase l k (by simpa using h)))
theorem alA {P : Program} {ops : Array Oper} {N : Nat} {ds : List Nat} {i d : Nat} {t : TypeId} {cs : List Value} {ty : TypeId} {pos : String} {af : Array Edge} (z : Value) (hop : ops[i]? = some ⟨some d, .alloc t, ty, pos, af, none⟩) (hd : d < N) (hds : List.contains ds i = false) (hz : ∀ w, (zeroValue t).run P w = .ok z w) (hc : z.cells.toList = cs) : okA P ops N ds ⟨i, d, t, cs⟩ :=
  ⟨⟨ty, pos, af, hop⟩, hd, hds, z, hz, hc⟩
theorem all_nil {α : Type} {p : α → Prop} : ∀ q ∈ ([] : List α), p q := fun _ h => by cases h
theorem all_cons {α : Type} {p : α → Prop} {a : α} {l : List α} (h : p a) (k : ∀ q ∈ l, p q) : ∀ q ∈ a :: l, p q := fun q hq => by
  rcases List.mem_cons.1 hq with rfl | hq
  · exact h
  · exact k q hq
/-- New variables, in whatever order they come. -/
theorem WA.allocs : ∀ (n : Nat) (ps : List Al) (fuel : Nat) (l l' : Array Bool) (m : List (Nat × Value)) (H : List Ck), ps.length = n → chkA ops n (ps.map (·.i)) l l' = true → (∀ p ∈ ps, okA P ops N ds p) → (ps.map (·.d)).Nodup → HS.Sublist H →
    (∀ g : Nat → Nat, WA P E N ops Q HS ds fuel l' (slA g ps m) (ckA g ps H)) → WA P E N ops Q HS ds (fuel + n) l m H := by
  intro n
  induction n with
  | zero =>
    intro ps fuel l l' m H hl hc _ _ hs h
    obtain rfl := List.eq_nil_of_length_eq_zero hl
    simp only [chkA, List.map_nil, List.isEmpty_nil, Bool.true_and, beq_iff_eq] at hc
    subst hc
    exact h (fun _ => 0)
  | succ n ih =>
    intro ps fuel l l' m H hl hc hok hnd hs h a w hF hI
    have hne : ps ≠ [] := fun e => by rw [e] at hl; simp at hl
    have hne2 : (ps.map (·.i)).isEmpty = false := by cases ps with
      | nil => exact absurd rfl hne
      | cons _ _ => rfl
    simp only [chkA, hne2, cond_false, Bool.and_eq_true, beq_iff_eq, List.all_eq_true, List.mem_range, List.length_map] at hc
    obtain ⟨hrd, hall⟩ := hc
    refine wpAnyLast_ready hrd (fun e => by rw [e] at hne2; simp at hne2) (fun i hi => ?_)
    obtain ⟨k, hk, hki⟩ := List.getElem_of_mem hi
    have hk' : k < ps.length := by simpa using hk
    have hpi : ps[k].i = i := by rw [← hki]; simp
    obtain ⟨⟨ty, pos, af, hop⟩, hd, hds, z, hz, hcs⟩ := hok ps[k] (List.getElem_mem hk')
    rw [hpi] at hop hds
    have hdi : i ∉ ds := by simpa using hds
    refine wpOp_step hop (fun K' hK => ?_)
    rw [if_pos (show Region.wanted _ (yielded ops a.tmps) = true from rfl)]
    have hrun : (execOp a.eval ⟨some ps[k].d, .alloc ps[k].t, ty, pos, af, none⟩).run P w = .ok (.value (.pointer (some ⟨w.heap.size, 0, none⟩))) (w.alloc (.cells ps[k].cs.toArray ps[k].t (0, 0))) := by
      rw [← hcs]
      simp only [execOp, Instr.alloc]
      simp [hz w, newVar, newRow, newObj, Sem.run]
    unfold Oper.wp
    rw [hrun, Oper.upon_value]
    have hI' : I E (.blk w.heap.size ps[k].cs ps[k].t :: H) (w.alloc (.cells ps[k].cs.toArray ps[k].t (0, 0))) :=
      hI.add (World.grownBy_alloc w _ none) (heap_push w _) (fun q hq => by simp only [Ck.fp, Option.some.injEq] at hq; omega)
    have hs' : HS.Sublist (.blk w.heap.size ps[k].cs ps[k].t :: H) := .cons _ hs
    refine hK _ _ ⟨fun _ _ => oks_of hI' hs', ?_⟩
    have hgd : (ps.map (·.i)).getD k 0 = i := by rw [List.getD_eq_getElem?_getD, List.getElem?_eq_getElem (by simpa using hk')]; simpa using hki
    have hc2 := hall k hk'
    rw [hgd, ← map_erase] at hc2
    have hsub : (ps.eraseIdx k).Sublist ps := List.eraseIdx_sublist _ _
    have hfu : fuel + (n + 1) - 1 = fuel + n := by omega
    refine ih (ps.eraseIdx k) fuel _ l' _ _ (by rw [List.length_eraseIdx, if_pos hk']; omega) hc2 (fun p hp => hok p (hsub.subset hp)) (hnd.sublist (hsub.map _)) hs' (fun g => ?_) _ _ (hF.put hd _) hI'
    have hperm : (ps[k] :: ps.eraseIdx k).Perm ps := perm_erase ps k hk'
    have hndp : ps[k].d ∉ (ps.eraseIdx k).map (·.d) := by
      have := (hperm.map (·.d)).nodup_iff.2 hnd
      simpa using (List.nodup_cons.1 this).1
    obtain ⟨g', hg'⟩ : ∃ g' : Nat → Nat, g' = fun d => if d = ps[k].d then w.heap.size else g d := ⟨_, rfl⟩
    have hW := h g'
    refine fun a2 w2 hF2 hI2 => hW a2 w2 (hF2.less (fun j v hj => ?_)) (hI2.perm ?_)
    · rw [lk_slA] at hj ⊢
      have hmem : j ∈ ps.map (·.d) ↔ j = ps[k].d ∨ j ∈ (ps.eraseIdx k).map (·.d) := by
        rw [← (hperm.map (·.d)).mem_iff]; simp
      by_cases hjd : j = ps[k].d
      · rw [if_pos (hmem.2 (.inl hjd))] at hj
        rw [if_neg (by rw [hjd]; exact hndp)]
        simp only [lk, show Nat.beq ps[k].d j = true by rw [hjd]; simp, cond_true]
        rw [← hj, hg', hjd]; simp
      · by_cases hje : j ∈ (ps.eraseIdx k).map (·.d)
        · rw [if_pos (hmem.2 (.inr hje))] at hj
          rw [if_pos hje, ← hj, hg']; simp [hjd]
        · rw [if_neg (by rw [hmem]; exact fun h => h.elim hjd hje)] at hj
          rw [if_neg hje]
          simp only [lk, show Nat.beq ps[k].d j = false by
            rw [Bool.eq_false_iff]; intro hh; exact hjd (Nat.eq_of_beq_eq_true hh).symm, cond_false]
          exact hj
    · have h1 : (ps.map (fun p => Ck.blk (g' p.d) p.cs p.t)).Perm (Ck.blk w.heap.size ps[k].cs ps[k].t :: (ps.eraseIdx k).map (fun p => Ck.blk (g p.d) p.cs p.t)) := by
        refine ((hperm.map _).symm).trans ?_
        rw [List.map_cons]
        have e1 : g' ps[k].d = w.heap.size := by rw [hg']; simp
        rw [e1]
        refine .cons _ ?_
        have e2 : (ps.eraseIdx k).map (fun p => Ck.blk (g' p.d) p.cs p.t) = (ps.eraseIdx k).map (fun p => Ck.blk (g p.d) p.cs p.t) := by
          refine List.map_congr_left (fun p hp => ?_)
          have : p.d ≠ ps[k].d := fun e => hndp (by rw [← e]; exact List.mem_map_of_mem hp)
          rw [hg']; simp [this]
        rw [e2]
      refine (h1.append_right H).trans ?_
      rw [List.cons_append]
      exact (List.perm_middle (l₁ := (ps.eraseIdx k).map (fun p => Ck.blk (g p.d) p.cs p.t))).symm
end
section
variable {P : Program} {E : Env} {N : Nat} {m : List (Nat × Value)} {H : List Ck} {Q : Exit → Act → World → Prop} {ops : Array Oper} {HS : List Ck} {ds : List Nat} {fuel : Nat} {l : Array Bool} {ty : TypeId} {pos : String} {af : Array Edge} {g : Option (Nat × Bool)}
/-- A store behind which HS still stands. -/
theorem WA.storeK {t : TypeId} {x y : Operand} (i : Nat) (l' : Array Bool) (k gb j : Nat) (cs vs cs' : List Value) (tb : TypeId) (v : Value) (hi : ops[i]? = some ⟨none, .store t x y, ty, pos, af, g⟩) (hw : Wd ops m g = some true) (hcb : readyB .any ops l l' i = true) (hds : List.contains ds i = false) (hx : ev m x = some (.pointer (some ⟨gb, j, none⟩))) (hy : ev m y = some v)
    (hk : H[k]? = some (.blk gb cs tb)) (hv : v.cells.toList = vs) (hs : ∀ w, (sizeOf t).run P w = .ok vs.length w) (h1 : vs.all (·.oneCell') = true) (hj : Nat.ble (j + vs.length) cs.length = true) (hp : putc cs j vs = cs') (hsub : HS.Sublist (H.set k (.blk gb cs' tb)))
    (h : WA P E N ops Q HS ds fuel l' m (H.set k (.blk gb cs' tb))) : WA P E N ops Q HS ds (fuel + 1) l m H :=
  WA.one i l' hi hw hcb hds (fun a w hF hI K hK => by
    obtain ⟨hrun, hI'⟩ := run_store_op (ty := ty) (pos := pos) (af := af) (g := g) k gb j cs vs cs' tb v hx hy hk hv hs h1 hj hp a w hF hI
    unfold Oper.wp
    rw [hrun, Oper.upon_skip]
    exact hK _ _ _ _ hF hI' hsub h)
end
section
variable {P : Program} {E : Env} {N : Nat} {m : List (Nat × Value)} {H : List Ck} {fn : Func} {C : Value → List Ck → Prop}
theorem run_var {w : World} {ty : TypeId} (i gb n : Nat) (vs : List Value) (tb : TypeId) (ha : ∀ w, (isAgg ty).run P w = .ok true w) (hs : ∀ w, (sizeOf ty).run P w = .ok n w) (hi : H[i]? = some (.blk gb vs tb)) (hn : vs.length = n) (hI : I E H w) :
    (loadVar ty ⟨gb, 0, none⟩).run P w = .ok (.agg vs.toArray) w := by
  have hl := loadCells_list (P := P) (w := w) (ad := ⟨gb, 0, none⟩) vs 0 #[] (fun k u hk => by rw [Nat.zero_add]; exact cells_blk (n := vs.length) hI hi (by simp) k u hk)
  rw [hn] at hl
  simp only [loadVar]
  simp [ha w, hs w, loadCells, hl]
/-- A result that stands in a variable, and a slot. -/
theorem QE.retc2 {t u : Tmp} {ty : TypeId} (i gb n : Nat) (vs : List Value) (tb : TypeId) (v2 : Value) (H' : List Ck) (hr : fn.results = #[.cell t ty, .tmp u]) (ha : ∀ w, (isAgg ty).run P w = .ok true w) (hs : ∀ w, (sizeOf ty).run P w = .ok n w)
    (ht : lk m t = some (.pointer (some ⟨gb, 0, none⟩))) (hu : lk m u = some v2) (hi : H[i]? = some (.blk gb vs tb)) (hn : vs.length = n) (hH : H'.Sublist H) (hC : C (.tuple #[.agg vs.toArray, v2]) H') : QE E N (bodyPost P fn (Post E C)) .ret m H := fun a w hF hI =>
  ⟨hF.defers, .tuple #[.agg vs.toArray, v2], by
    rw [results_cell_tmp hr]
    have h1 := hF.get t _ ht
    have h2 := hF.get u _ hu
    rw [Array.getD_eq_getD_getElem?, Array.getD_eq_getD_getElem?, h1, h2]
    simp only [Option.getD_some, asAddr]
    simp [Result.andThen, run_var i gb n vs tb ha hs hi hn hI], _, H', hC, rfl, hI.sub hH⟩
theorem QE.retc1 {t : Tmp} {ty : TypeId} (i gb n : Nat) (vs : List Value) (tb : TypeId) (H' : List Ck) (hr : fn.results = #[.cell t ty]) (ha : ∀ w, (isAgg ty).run P w = .ok true w) (hs : ∀ w, (sizeOf ty).run P w = .ok n w)
    (ht : lk m t = some (.pointer (some ⟨gb, 0, none⟩))) (hi : H[i]? = some (.blk gb vs tb)) (hn : vs.length = n) (hH : H'.Sublist H) (hC : C (.agg vs.toArray) H') : QE E N (bodyPost P fn (Post E C)) .ret m H := fun a w hF hI =>
  ⟨hF.defers, .agg vs.toArray, by
    have h1 := hF.get t _ ht
    simp only [results, hr]
    simp [h1, asAddr, run_var i gb n vs tb ha hs hi hn hI], _, H', hC, rfl, hI.sub hH⟩
end
end Go.Proofs.Ytalafklnnohlgaa.X
