/- A rule: calls and new variables that come in whatever order. No condition: the rule holds of every program. -/
import Derived.Test.YtalafklnnohlgaaX14
namespace Go.Proofs.Ytalafklnnohlgaa.X
open Go.RowKit Go.Proofs.YtalafklnnohlgaaW.PrintLast
set_option linter.unusedVariables false
set_option linter.unusedSimpArgs false

/-- An operation that yields a value and adds chunks: its number, its slot, what holds of them. -/
structure It where
  i : Nat
  d : Nat
  C : Value → List Ck → Prop
def chkI (ops : Array Oper) : Nat → List Nat → Array Bool → Array Bool → Bool
  | 0, is, l, l' => is.isEmpty && l == l'
  | n + 1, is, l, l' => bif is.isEmpty then l == l' else !(Region.ready .any ops l).isEmpty && (Region.ready .any ops l).all (fun i => is.contains i && chkI ops n (is.erase i) (l.setIfInBounds i true) l')
section
variable {P : Program} {E : Env} {N : Nat} {Q : Exit → Act → World → Prop} {ops : Array Oper} {HS : List Ck} {ds : List Nat}
def okI (P : Program) (E : Env) (N : Nat) (ops : Array Oper) (Q : Exit → Act → World → Prop) (ds : List Nat) (m : List (Nat × Value)) (H : List Ck) (p : It) : Prop :=
  p.d < N ∧ List.contains ds p.i = false ∧ lk m p.d = none ∧ ∃ o, ops[p.i]? = some o ∧ o.guard = none ∧
    ∀ (H'' : List Ck) (a : Act) (w : World), Fr N m a → I E (H'' ++ H) w → ∀ K : Act → World → Prop, (∀ v X w', p.C v X → I E (X ++ (H'' ++ H)) w' → K (a.put (some p.d) v) w') → o.wp P a w K Q
theorem okI.more {m : List (Nat × Value)} {H X : List Ck} {p : It} {d : Nat} {v : Value} (h : okI P E N ops Q ds m H p) (hd : p.d ≠ d) (hm : lk m d = none) : okI P E N ops Q ds ((d, v) :: m) (X ++ H) p := by
  obtain ⟨h1, h2, h3, o, h4, h5, h6⟩ := h
  refine ⟨h1, h2, ?_, o, h4, h5, fun H'' a w hF hI K hK => ?_⟩
  · simp only [lk]
    cases hb : Nat.beq d p.d with
    | true => exact absurd (Nat.eq_of_beq_eq_true hb).symm hd
    | false => exact h3
  · refine h6 (H'' ++ X) a w (hF.less (fun i u hi => ?_)) (by rw [List.append_assoc]; exact hI) K (fun v' Y w' hC hI' => hK v' Y w' hC (by rw [← List.append_assoc H'' X H]; exact hI'))
    simp only [lk]
    cases hb : Nat.beq d i with
    | true => have := Nat.eq_of_beq_eq_true hb; subst this; rw [hm] at hi; cases hi
    | false => exact hi
theorem lk_map (f : Nat → Value) (ps : List It) (m : List (Nat × Value)) (i : Nat) : lk (ps.map (fun p => (p.d, f p.d)) ++ m) i = if i ∈ ps.map (·.d) then some (f i) else lk m i := by
  induction ps with
  | nil => simp
  | cons p ps ih =>
    simp only [List.map_cons, List.cons_append, lk, List.mem_cons] at ih ⊢
    cases hb : Nat.beq p.d i with
    | true => have := Nat.eq_of_beq_eq_true hb; subst this; simp
    | false =>
      have hne : i ≠ p.d := fun e => by subst e; simp at hb
      simp only [cond_false, ih, hne, false_or]
theorem erase_at : ∀ (l : List Nat) (k : Nat) (h : k < l.length), l.Nodup → l.erase l[k] = l.eraseIdx k
  | [], k, h, _ => by simp at h
  | a :: l, 0, h, _ => by simp
  | a :: l, k + 1, h, hn => by
    have hk : k < l.length := by simpa using h
    have hne : a ≠ l[k] := fun e => (List.nodup_cons.1 hn).1 (by rw [e]; exact List.getElem_mem hk)
    rw [List.getElem_cons_succ, List.erase_cons_tail (by simpa using hne), List.eraseIdx_cons_succ, erase_at l k hk (List.nodup_cons.1 hn).2]
theorem perm_flat {α β : Type} (f : α → List β) {l l' : List α} (h : l.Perm l') : (l.flatMap f).Perm (l'.flatMap f) := by
  induction h with
  | nil => exact .refl _
  | cons x _ ih => simp only [List.flatMap_cons]; exact ih.append_left _
  | swap x y l =>
    simp only [List.flatMap_cons, ← List.append_assoc]
    exact List.Perm.append_right _ List.perm_append_comm
  | trans _ _ h1 h2 => exact h1.trans h2
theorem WA.any : ∀ (n : Nat) (ps : List It) (fuel : Nat) (l l' : Array Bool) (m : List (Nat × Value)) (H : List Ck), ps.length = n → chkI ops n (ps.map (·.i)) l l' = true → (∀ p ∈ ps, okI P E N ops Q ds m H p) → (ps.map (·.d)).Nodup → (ps.map (·.i)).Nodup → HS.Sublist H →
    (∀ (f : Nat → Value) (X : Nat → List Ck), (∀ p ∈ ps, p.C (f p.d) (X p.d)) → WA P E N ops Q HS ds fuel l' (ps.map (fun p => (p.d, f p.d)) ++ m) (ps.flatMap (fun p => X p.d) ++ H)) → WA P E N ops Q HS ds (fuel + n) l m H := by
  intro n
  induction n with
  | zero =>
    intro ps fuel l l' m H hl hc _ _ _ hs h
    obtain rfl := List.eq_nil_of_length_eq_zero hl
    simp only [chkI, List.map_nil, List.isEmpty_nil, Bool.true_and, beq_iff_eq] at hc
    subst hc
    exact h (fun _ => undef) (fun _ => []) (fun _ h => by cases h)
  | succ n ih =>
    intro ps fuel l l' m H hl hc hok hnd hndi hs h a w hF hI
    have hne2 : (ps.map (·.i)).isEmpty = false := by cases ps with
      | nil => simp at hl
      | cons _ _ => rfl
    simp only [chkI, hne2, cond_false, Bool.and_eq_true, Bool.not_eq_true', List.all_eq_true] at hc
    obtain ⟨hrd, hall⟩ := hc
    refine wpAnyLast_all rfl (fun e => by rw [e] at hrd; simp at hrd) (fun i hi => ?_)
    obtain ⟨hin, hc2⟩ := hall i hi
    obtain ⟨p, hp, hpi⟩ := List.mem_map.1 (List.contains_iff_mem.1 hin)
    obtain ⟨hd, hds, hm, o, hop, hg, hstep⟩ := hok p hp
    rw [hpi] at hop hds
    have hdi : i ∉ ds := by simpa using hds
    refine wpOp_step hop (fun K' hK => ?_)
    rw [if_pos (show Region.wanted o (yielded ops a.tmps) = true by simp [Region.wanted, hg])]
    refine hstep [] a w hF hI K' (fun v X w' hC hI' => ?_)
    rw [List.nil_append] at hI'
    have hs' : HS.Sublist (X ++ H) := hs.trans (List.sublist_append_right _ _)
    refine hK _ _ ⟨fun _ _ => oks_of hI' hs', ?_⟩
    obtain ⟨k, hk, hkp⟩ := List.getElem_of_mem hp
    subst hkp
    have hsub : (ps.eraseIdx k).Sublist ps := List.eraseIdx_sublist _ _
    have hperm : (ps[k] :: ps.eraseIdx k).Perm ps := perm_erase ps k hk
    have hndp : ps[k].d ∉ (ps.eraseIdx k).map (·.d) := by
      have := (hperm.map (·.d)).nodup_iff.2 hnd
      simpa using (List.nodup_cons.1 this).1
    have her : (ps.map (·.i)).erase i = (ps.eraseIdx k).map (·.i) := by
      have h1 : (ps.map (·.i)).Perm (ps[k].i :: (ps.eraseIdx k).map (·.i)) := (hperm.map (·.i)).symm
      rw [map_erase]
      have hk2 : k < (ps.map (·.i)).length := by simpa using hk
      have e : i = (ps.map (·.i))[k] := by simp [hpi]
      rw [e, erase_at _ k hk2 hndi]
    rw [her] at hc2
    refine ih (ps.eraseIdx k) fuel _ l' _ _ (by rw [List.length_eraseIdx, if_pos hk]; omega) hc2 (fun q hq => (hok q (hsub.subset hq)).more (fun e => hndp (by rw [← e]; exact List.mem_map_of_mem hq)) hm) (hnd.sublist (hsub.map _)) (hndi.sublist (hsub.map _)) hs' (fun f Y hfY => ?_) _ _ (hF.put hd v) hI'
    obtain ⟨f', hf'⟩ : ∃ f' : Nat → Value, f' = fun d => if d = ps[k].d then v else f d := ⟨_, rfl⟩
    obtain ⟨Y', hY'⟩ : ∃ Y' : Nat → List Ck, Y' = fun d => if d = ps[k].d then X else Y d := ⟨_, rfl⟩
    have hold : ∀ q ∈ ps.eraseIdx k, f' q.d = f q.d ∧ Y' q.d = Y q.d := fun q hq => by
      have : q.d ≠ ps[k].d := fun e => hndp (by rw [← e]; exact List.mem_map_of_mem hq)
      rw [hf', hY']; simp [this]
    have hW := h f' Y' (fun q hq => by
      rcases List.mem_cons.1 (hperm.mem_iff.2 hq) with rfl | hq
      · rw [hf', hY']; simpa using hC
      · rw [(hold q hq).1, (hold q hq).2]; exact hfY q hq)
    refine fun a2 w2 hF2 hI2 => hW a2 w2 (hF2.less (fun j u hj => ?_)) (hI2.perm ?_)
    · rw [lk_map] at hj ⊢
      have hmem : j ∈ ps.map (·.d) ↔ j = ps[k].d ∨ j ∈ (ps.eraseIdx k).map (·.d) := by
        rw [← (hperm.map (·.d)).mem_iff]; simp
      by_cases hjd : j = ps[k].d
      · rw [if_pos (hmem.2 (.inl hjd))] at hj
        rw [if_neg (by rw [hjd]; exact hndp)]
        simp only [lk, show Nat.beq ps[k].d j = true by rw [hjd]; simp, cond_true]
        rw [← hj, hf', hjd]; simp
      · by_cases hje : j ∈ (ps.eraseIdx k).map (·.d)
        · rw [if_pos (hmem.2 (.inr hje))] at hj
          rw [if_pos hje, ← hj, hf']; simp [hjd]
        · rw [if_neg (by rw [hmem]; exact fun h => h.elim hjd hje)] at hj
          rw [if_neg hje]
          simp only [lk, show Nat.beq ps[k].d j = false by
            rw [Bool.eq_false_iff]; intro hh; exact hjd (Nat.eq_of_beq_eq_true hh).symm, cond_false]
          exact hj
    · have h1 : (ps.flatMap (fun p => Y' p.d)).Perm (X ++ (ps.eraseIdx k).flatMap (fun p => Y p.d)) := by
        refine (perm_flat (fun p : It => Y' p.d) hperm.symm).trans ?_
        rw [List.flatMap_cons]
        have e1 : Y' ps[k].d = X := by rw [hY']; simp
        have e2 : (ps.eraseIdx k).flatMap (fun p => Y' p.d) = (ps.eraseIdx k).flatMap (fun p => Y p.d) := by
          simp only [List.flatMap_def]
          congr 1
          exact List.map_congr_left (fun q hq => (hold q hq).2)
        rw [e1, e2]
      refine (h1.append_right H).trans ?_
      rw [← List.append_assoc]
      exact List.Perm.append_right H List.perm_append_comm
/-- A new variable. -/
theorem itA {m : List (Nat × Value)} {H : List Ck} {i d : Nat} {t : TypeId} {ty : TypeId} {pos : String} {af : Array Edge} (z : Value) (cs : List Value) (hop : ops[i]? = some ⟨some d, .alloc t, ty, pos, af, none⟩) (hd : d < N) (hds : List.contains ds i = false) (hm : lk m d = none) (hz : ∀ w, (zeroValue t).run P w = .ok z w) (hc : z.cells.toList = cs) :
    okI P E N ops Q ds m H ⟨i, d, fun v X => ∃ g, v = .pointer (some ⟨g, 0, none⟩) ∧ X = [.blk g cs t]⟩ :=
  ⟨hd, hds, hm, _, hop, rfl, fun H'' a w hF hI K hK => by
    have hrun : (execOp a.eval ⟨some d, .alloc t, ty, pos, af, none⟩).run P w = .ok (.value (.pointer (some ⟨w.heap.size, 0, none⟩))) (w.alloc (.cells cs.toArray t (0, 0))) := by
      rw [← hc]
      simp only [execOp, Instr.alloc]
      simp [hz w, newVar, newRow, newObj, Sem.run]
    unfold Oper.wp
    rw [hrun, Oper.upon_value]
    exact hK _ [.blk w.heap.size cs t] _ ⟨_, rfl, rfl⟩ (hI.add (World.grownBy_alloc w _ none) (heap_push w _) (fun q hq => by simp only [Ck.fp, Option.some.injEq] at hq; omega))⟩
/-- A call that is given nothing and reads what stands. -/
theorem itC {m : List (Nat × Value)} {H : List Ck} {i d : Nat} {x : Operand} {ts : Array TypeId} {ss : List Operand} {f : FuncId} {fn : Func} {ty : TypeId} {pos : String} {af : Array Edge} (first cap vs : List Value) (args : Array Value) {R : World → Prop} {C : Value → List Ck → Prop} (hc : Con P f args [] R C)
    (hop : ops[i]? = some ⟨some d, .call { callee := .value x, args := ss.toArray, argTypes := ts }, ty, pos, af, none⟩) (hd : d < N) (hds : List.contains ds i = false) (hm : lk m d = none) (hx : ev m x = some (.func (.func f) first.toArray cap.toArray)) (hf : P.funcs[f]? = some fn) (hname : (fn.name == "runtime.NumGoroutine") = false) (hb : fn.body.isSome = true)
    (has : ss.map (ev m) = vs.map some) (hargs : (first ++ vs ++ cap).toArray = args) (hR : ∀ H'' w, I E (H'' ++ H) w → R w) : okI P E N ops Q ds m H ⟨i, d, C⟩ :=
  ⟨hd, hds, hm, _, hop, rfl, fun H'' a w hF hI K hK => by
    unfold Oper.wp
    rw [run_call (args := args) hf hname hb (hF.eval hx) (by rw [List.map_toArray, evals hF _ _ has, ← hargs]; simp), Oper.upon_enter]
    refine (hc w (fun c hc => by cases hc) List.Pairwise.nil (hR H'' w hI)).mono ?_
    rintro e w' ⟨v, X, hC, rfl, hI'⟩
    exact hK v X w' hC (I.frame (H1 := []) hI hI')⟩
end
end Go.Proofs.Ytalafklnnohlgaa.X
