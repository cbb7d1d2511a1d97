/- Rules: calls and new variables in whatever order; what stands where an argument reads well; strings walked, indexed, measured; an array's element; two operations either of which may come. No condition: every rule holds of every program. -/
import Derived.Test.YtalafklnnohlgaaX14
import Derived.Deep.SlicePairs
import Derived.ChangeArms
namespace Go.Proofs.Ytalafklnnohlgaa.X
open Go.RowKit Go.Proofs.YtalafklnnohlgaaW.PrintLast
set_option linter.unusedVariables false
set_option linter.unusedSimpArgs false

/-- An operation that yields a value and adds chunks: its number, its slot, what holds of them. -/
structure It where
  i : Nat
  d : Nat
  C : Value → List Ck → Prop
def chkI (ops : Array Oper) : Nat → List Nat → Array Bool → Array Bool → Bool
  | 0, is, l, l' => is.isEmpty && l == l'
  | n + 1, is, l, l' => bif is.isEmpty then l == l' else !(Region.ready .any ops l).isEmpty && (Region.ready .any ops l).all (fun i => is.contains i && chkI ops n (is.erase i) (l.setIfInBounds i true) l')
section
variable {P : Program} {E : Env} {N : Nat} {Q : Exit → Act → World → Prop} {ops : Array Oper} {HS : List Ck} {ds : List Nat}
def okI (P : Program) (E : Env) (N : Nat) (ops : Array Oper) (Q : Exit → Act → World → Prop) (ds : List Nat) (m : List (Nat × Value)) (H : List Ck) (p : It) : Prop :=
  p.d < N ∧ List.contains ds p.i = false ∧ lk m p.d = none ∧ ∃ o, ops[p.i]? = some o ∧ o.guard = none ∧
    ∀ (H'' : List Ck) (a : Act) (w : World), Fr N m a → I E (H'' ++ H) w → ∀ K : Act → World → Prop, (∀ v X w', p.C v X → I E (X ++ (H'' ++ H)) w' → K (a.put (some p.d) v) w') → o.wp P a w K Q
theorem okI.more {m : List (Nat × Value)} {H X : List Ck} {p : It} {d : Nat} {v : Value} (h : okI P E N ops Q ds m H p) (hd : p.d ≠ d) (hm : lk m d = none) : okI P E N ops Q ds ((d, v) :: m) (X ++ H) p := by
  obtain ⟨h1, h2, h3, o, h4, h5, h6⟩ := h
  refine ⟨h1, h2, ?_, o, h4, h5, fun H'' a w hF hI K hK => ?_⟩
  · simp only [lk]
    cases hb : Nat.beq d p.d with
    | true => exact absurd (Nat.eq_of_beq_eq_true hb).symm hd
    | false => exact h3
  · refine h6 (H'' ++ X) a w (hF.less (fun i u hi => ?_)) (by rw [List.append_assoc]; exact hI) K (fun v' Y w' hC hI' => hK v' Y w' hC (by rw [← List.append_assoc H'' X H]; exact hI'))
    simp only [lk]
    cases hb : Nat.beq d i with
    | true => have := Nat.eq_of_beq_eq_true hb; subst this; rw [hm] at hi; cases hi
    | false => exact hi
theorem lk_map (f : Nat → Value) (ps : List It) (m : List (Nat × Value)) (i : Nat) : lk (ps.map (fun p => (p.d, f p.d)) ++ m) i = if i ∈ ps.map (·.d) then some (f i) else lk m i := by
  induction ps with
  | nil => simp
  | cons p ps ih =>
    simp only [List.map_cons, List.cons_append, lk, List.mem_cons] at ih ⊢
    cases hb : Nat.beq p.d i with
    | true => have := Nat.eq_of_beq_eq_true hb; subst this; simp
    | false =>
      have hne : i ≠ p.d := fun e => by subst e; simp at hb
      simp only [cond_false, ih, hne, false_or]
theorem erase_at : ∀ (l : List Nat) (k : Nat) (h : k < l.length), l.Nodup → l.erase l[k] = l.eraseIdx k
  | [], k, h, _ => by simp at h
  | a :: l, 0, h, _ => by simp
  | a :: l, k + 1, h, hn => by
    have hk : k < l.length := by simpa using h
    have hne : a ≠ l[k] := fun e => (List.nodup_cons.1 hn).1 (by rw [e]; exact List.getElem_mem hk)
    rw [List.getElem_cons_succ, List.erase_cons_tail (by simpa using hne), List.eraseIdx_cons_succ, erase_at l k hk (List.nodup_cons.1 hn).2]
theorem perm_flat {α β : Type} (f : α → List β) {l l' : List α} (h : l.Perm l') : (l.flatMap f).Perm (l'.flatMap f) := by
  induction h with
  | nil => exact .refl _
  | cons x _ ih => simp only [List.flatMap_cons]; exact ih.append_left _
  | swap x y l =>
    simp only [List.flatMap_cons, ← List.append_assoc]
    exact List.Perm.append_right _ List.perm_append_comm
  | trans _ _ h1 h2 => exact h1.trans h2
theorem WA.any : ∀ (n : Nat) (ps : List It) (fuel : Nat) (l l' : Array Bool) (m : List (Nat × Value)) (H : List Ck), ps.length = n → chkI ops n (ps.map (·.i)) l l' = true → (∀ p ∈ ps, okI P E N ops Q ds m H p) → (ps.map (·.d)).Nodup → (ps.map (·.i)).Nodup → HS.Sublist H →
    (∀ (f : Nat → Value) (X : Nat → List Ck), (∀ p ∈ ps, p.C (f p.d) (X p.d)) → WA P E N ops Q HS ds fuel l' (ps.map (fun p => (p.d, f p.d)) ++ m) (ps.flatMap (fun p => X p.d) ++ H)) → WA P E N ops Q HS ds (fuel + n) l m H := by
  intro n
  induction n with
  | zero =>
    intro ps fuel l l' m H hl hc _ _ _ hs h
    obtain rfl := List.eq_nil_of_length_eq_zero hl
    simp only [chkI, List.map_nil, List.isEmpty_nil, Bool.true_and, beq_iff_eq] at hc
    subst hc
    exact h (fun _ => undef) (fun _ => []) (fun _ h => by cases h)
  | succ n ih =>
    intro ps fuel l l' m H hl hc hok hnd hndi hs h a w hF hI
    have hne2 : (ps.map (·.i)).isEmpty = false := by cases ps with
      | nil => simp at hl
      | cons _ _ => rfl
    simp only [chkI, hne2, cond_false, Bool.and_eq_true, Bool.not_eq_true', List.all_eq_true] at hc
    obtain ⟨hrd, hall⟩ := hc
    refine wpAnyLast_all rfl (fun e => by rw [e] at hrd; simp at hrd) (fun i hi => ?_)
    obtain ⟨hin, hc2⟩ := hall i hi
    obtain ⟨p, hp, hpi⟩ := List.mem_map.1 (List.contains_iff_mem.1 hin)
    obtain ⟨hd, hds, hm, o, hop, hg, hstep⟩ := hok p hp
    rw [hpi] at hop hds
    have hdi : i ∉ ds := by simpa using hds
    refine wpOp_step hop (fun K' hK => ?_)
    rw [if_pos (show Region.wanted o (yielded ops a.tmps) = true by simp [Region.wanted, hg])]
    refine hstep [] a w hF hI K' (fun v X w' hC hI' => ?_)
    rw [List.nil_append] at hI'
    have hs' : HS.Sublist (X ++ H) := hs.trans (List.sublist_append_right _ _)
    refine hK _ _ ⟨fun _ _ => oks_of hI' hs', ?_⟩
    obtain ⟨k, hk, hkp⟩ := List.getElem_of_mem hp
    subst hkp
    have hsub : (ps.eraseIdx k).Sublist ps := List.eraseIdx_sublist _ _
    have hperm : (ps[k] :: ps.eraseIdx k).Perm ps := perm_erase ps k hk
    have hndp : ps[k].d ∉ (ps.eraseIdx k).map (·.d) := by
      have := (hperm.map (·.d)).nodup_iff.2 hnd
      simpa using (List.nodup_cons.1 this).1
    have her : (ps.map (·.i)).erase i = (ps.eraseIdx k).map (·.i) := by
      have h1 : (ps.map (·.i)).Perm (ps[k].i :: (ps.eraseIdx k).map (·.i)) := (hperm.map (·.i)).symm
      rw [map_erase]
      have hk2 : k < (ps.map (·.i)).length := by simpa using hk
      have e : i = (ps.map (·.i))[k] := by simp [hpi]
      rw [e, erase_at _ k hk2 hndi]
    rw [her] at hc2
    refine ih (ps.eraseIdx k) fuel _ l' _ _ (by rw [List.length_eraseIdx, if_pos hk]; omega) hc2 (fun q hq => (hok q (hsub.subset hq)).more (fun e => hndp (by rw [← e]; exact List.mem_map_of_mem hq)) hm) (hnd.sublist (hsub.map _)) (hndi.sublist (hsub.map _)) hs' (fun f Y hfY => ?_) _ _ (hF.put hd v) hI'
    obtain ⟨f', hf'⟩ : ∃ f' : Nat → Value, f' = fun d => if d = ps[k].d then v else f d := ⟨_, rfl⟩
    obtain ⟨Y', hY'⟩ : ∃ Y' : Nat → List Ck, Y' = fun d => if d = ps[k].d then X else Y d := ⟨_, rfl⟩
    have hold : ∀ q ∈ ps.eraseIdx k, f' q.d = f q.d ∧ Y' q.d = Y q.d := fun q hq => by
      have : q.d ≠ ps[k].d := fun e => hndp (by rw [← e]; exact List.mem_map_of_mem hq)
      rw [hf', hY']; simp [this]
    have hW := h f' Y' (fun q hq => by
      rcases List.mem_cons.1 (hperm.mem_iff.2 hq) with rfl | hq
      · rw [hf', hY']; simpa using hC
      · rw [(hold q hq).1, (hold q hq).2]; exact hfY q hq)
    refine fun a2 w2 hF2 hI2 => hW a2 w2 (hF2.less (fun j u hj => ?_)) (hI2.perm ?_)
    · rw [lk_map] at hj ⊢
      have hmem : j ∈ ps.map (·.d) ↔ j = ps[k].d ∨ j ∈ (ps.eraseIdx k).map (·.d) := by
        rw [← (hperm.map (·.d)).mem_iff]; simp
      by_cases hjd : j = ps[k].d
      · rw [if_pos (hmem.2 (.inl hjd))] at hj
        rw [if_neg (by rw [hjd]; exact hndp)]
        simp only [lk, show Nat.beq ps[k].d j = true by rw [hjd]; simp, cond_true]
        rw [← hj, hf', hjd]; simp
      · by_cases hje : j ∈ (ps.eraseIdx k).map (·.d)
        · rw [if_pos (hmem.2 (.inr hje))] at hj
          rw [if_pos hje, ← hj, hf']; simp [hjd]
        · rw [if_neg (by rw [hmem]; exact fun h => h.elim hjd hje)] at hj
          rw [if_neg hje]
          simp only [lk, show Nat.beq ps[k].d j = false by
            rw [Bool.eq_false_iff]; intro hh; exact hjd (Nat.eq_of_beq_eq_true hh).symm, cond_false]
          exact hj
    · have h1 : (ps.flatMap (fun p => Y' p.d)).Perm (X ++ (ps.eraseIdx k).flatMap (fun p => Y p.d)) := by
        refine (perm_flat (fun p : It => Y' p.d) hperm.symm).trans ?_
        rw [List.flatMap_cons]
        have e1 : Y' ps[k].d = X := by rw [hY']; simp
        have e2 : (ps.eraseIdx k).flatMap (fun p => Y' p.d) = (ps.eraseIdx k).flatMap (fun p => Y p.d) := by
          simp only [List.flatMap_def]
          congr 1
          exact List.map_congr_left (fun q hq => (hold q hq).2)
        rw [e1, e2]
      refine (h1.append_right H).trans ?_
      rw [← List.append_assoc]
      exact List.Perm.append_right H List.perm_append_comm
/-- A new variable. -/
theorem itA {m : List (Nat × Value)} {H : List Ck} {i d : Nat} {t : TypeId} {ty : TypeId} {pos : String} {af : Array Edge} (z : Value) (cs : List Value) (hop : ops[i]? = some ⟨some d, .alloc t, ty, pos, af, none⟩) (hd : d < N) (hds : List.contains ds i = false) (hm : lk m d = none) (hz : ∀ w, (zeroValue t).run P w = .ok z w) (hc : z.cells.toList = cs) :
    okI P E N ops Q ds m H ⟨i, d, fun v X => ∃ g, v = .pointer (some ⟨g, 0, none⟩) ∧ X = [.blk g cs t]⟩ :=
  ⟨hd, hds, hm, _, hop, rfl, fun H'' a w hF hI K hK => by
    have hrun : (execOp a.eval ⟨some d, .alloc t, ty, pos, af, none⟩).run P w = .ok (.value (.pointer (some ⟨w.heap.size, 0, none⟩))) (w.alloc (.cells cs.toArray t (0, 0))) := by
      rw [← hc]
      simp only [execOp, Instr.alloc]
      simp [hz w, newVar, newRow, newObj, Sem.run]
    unfold Oper.wp
    rw [hrun, Oper.upon_value]
    exact hK _ [.blk w.heap.size cs t] _ ⟨_, rfl, rfl⟩ (hI.add (World.grownBy_alloc w _ none) (heap_push w _) (fun q hq => by simp only [Ck.fp, Option.some.injEq] at hq; omega))⟩
/-- A call that is given nothing and reads what stands. -/
theorem itC {m : List (Nat × Value)} {H : List Ck} {i d : Nat} {x : Operand} {ts : Array TypeId} {ss : List Operand} {f : FuncId} {fn : Func} {ty : TypeId} {pos : String} {af : Array Edge} (first cap vs : List Value) (args : Array Value) {R : World → Prop} {C : Value → List Ck → Prop} (hc : Con P f args [] R C)
    (hop : ops[i]? = some ⟨some d, .call { callee := .value x, args := ss.toArray, argTypes := ts }, ty, pos, af, none⟩) (hd : d < N) (hds : List.contains ds i = false) (hm : lk m d = none) (hx : ev m x = some (.func (.func f) first.toArray cap.toArray)) (hf : P.funcs[f]? = some fn) (hname : (fn.name == "runtime.NumGoroutine") = false) (hb : fn.body.isSome = true)
    (has : ss.map (ev m) = vs.map some) (hargs : (first ++ vs ++ cap).toArray = args) (hR : ∀ H'' w, I E (H'' ++ H) w → R w) : okI P E N ops Q ds m H ⟨i, d, C⟩ :=
  ⟨hd, hds, hm, _, hop, rfl, fun H'' a w hF hI K hK => by
    unfold Oper.wp
    rw [run_call (args := args) hf hname hb (hF.eval hx) (by rw [List.map_toArray, evals hF _ _ has, ← hargs]; simp), Oper.upon_enter]
    refine (hc w (fun c hc => by cases hc) List.Pairwise.nil (hR H'' w hI)).mono ?_
    rintro e w' ⟨v, X, hC, rfl, hI'⟩
    exact hK v X w' hC (I.frame (H1 := []) hI hI')⟩
end
end Go.Proofs.Ytalafklnnohlgaa.X
namespace Go.Proofs.Ytalafklnnohlgaa.X
open Go.RowKit Go.ChangeShapes Go.WideShapes
set_option linter.unusedVariables false

def Opn {T : Type} (enc : TypeId × Value → T) (P : Program) (w : World) (t : TypeId) (cs : List Value) : Prop := ∃ n x, DataW.trod enc P w 0 (fun _ => true) true n t cs = some x
section
variable {T : Type} {enc : TypeId × Value → T} {P : Program} {w : World} {t : TypeId} {cs : List Value}
theorem Opn.of {v : Value} {d : DataW T} {p : List MemPlace} (h : DataW.Trod enc P w 0 (fun _ => true) true t v d p) : Opn enc P w t v.cells.toList := by
  obtain ⟨n, hn⟩ := h
  exact ⟨n, _, hn⟩
theorem Opn.fld {fs : Array Field} {f : Field} (h : Opn enc P w t cs) (ht : P.underlying t = some (.struct fs)) (j ty o n : Nat) (hj : fs[j]? = some f) (hf : (f.type, f.offset) = (ty, o)) (hc : P.cellsOf ty = n) : Opn enc P w ty ((cs.drop o).take n) := by
  obtain ⟨m, x, h⟩ := h
  obtain ⟨xs, k, _, _, _, hl, hg⟩ := DataW.trod_struct ht h
  have h1 := hg j f hj
  cases hf
  subst hc
  have hjl : j < xs.length := by rw [hl]; exact (Array.getElem?_eq_some_iff.1 hj).1
  exact ⟨k, _, h1.trans (List.getElem?_eq_getElem hjl)⟩
theorem Opn.len {fs : Array Field} (h : Opn enc P w t cs) (ht : P.underlying t = some (.struct fs)) {n : Nat} (hc : P.cellsOf t = n) : cs.length = n := by
  obtain ⟨m, x, h⟩ := h
  obtain ⟨xs, k, _, _, hl, _⟩ := DataW.trod_struct ht h
  exact hl.trans hc
theorem Opn.int {k : IntKind} (h : Opn enc P w t cs) (ht : P.underlying t = some (.int k)) : ∃ n, cs = [.int k n] ∧ (Lit.int k n).wf = true := by
  obtain ⟨m, x, h⟩ := h
  cases m with
  | zero => simp [DataW.trod] at h
  | succ n => unfold DataW.trod at h; rw [ht] at h; split at h <;> simp_all
theorem Opn.bool (h : Opn enc P w t cs) (ht : P.underlying t = some .bool) : ∃ b, cs = [.bool b] := by
  obtain ⟨m, x, h⟩ := h
  cases m with
  | zero => simp [DataW.trod] at h
  | succ n => unfold DataW.trod at h; rw [ht] at h; split at h <;> simp_all
theorem Opn.sl {e s : TypeId} (h : Opn enc P w t cs) (ht : P.underlying t = some (.slice e)) (hc : P.cellsOf e = s) : cs = [.slice none 0 0] ∨ ∃ a len cap, cs = [.slice (some a) len cap] ∧ len ≤ cap ∧ cap ≤ maxLen ∧ ∀ i, i < len → ∃ cs', cs'.length = s ∧ (∀ j, j < s → w.cell? (a.add (i * s + j)) = cs'[j]?) ∧ Opn enc P w e cs' := by
  obtain ⟨m, x, h⟩ := h
  rcases Go.Deep.open_slice ht h with ⟨h0, _⟩ | ⟨a, len, cap, m, n, D, Pl, hcs, _, hl, hm, hmm, _, hi⟩
  · exact .inl h0
  · refine .inr ⟨a, len, cap, hcs, hl, hm, fun i hil => ?_⟩
    obtain ⟨cs', h1, h2⟩ := hi i (by rw [hmm]; split <;> omega)
    rw [hc] at h1
    obtain ⟨_, h4, h5⟩ := World.cells?_some h1
    exact ⟨cs', h4, (fun j hj => by rw [← h5 j hj, Go.Deep.add_add]), ⟨_, _, h2⟩⟩
end
theorem pick_list {α : Type} (Q : Nat → α → Prop) : ∀ (len : Nat), (∀ i, i < len → ∃ p, Q i p) → ∃ ms : List α, ms.length = len ∧ ∀ i p, ms[i]? = some p → Q i p
  | 0, _ => ⟨[], rfl, fun i p h => by simp at h⟩
  | n + 1, h => by
    obtain ⟨ms, hl, hq⟩ := pick_list Q n (fun i hi => h i (by omega))
    obtain ⟨p, hp⟩ := h n (by omega)
    refine ⟨ms ++ [p], by simp [hl], fun i q hi => ?_⟩
    rcases Nat.lt_or_ge i n with h1 | h1
    · rw [List.getElem?_append_left (by omega)] at hi; exact hq i q hi
    · rw [List.getElem?_append_right (by omega)] at hi
      obtain rfl : i = n := by
        rcases Nat.lt_or_ge n i with h2 | h2
        · rw [List.getElem?_eq_none (by simp; omega)] at hi; cases hi
        · omega
      simp [hl] at hi
      subst hi; exact hp
/-- A row out of its elements: whatever each of them is. -/
theorem rds_flat {α : Type} {w : World} {a : Addr} {s : Nat} {f : α → List Value} (hf : ∀ p, (f p).length = s) (hs : 0 < s) (ms : List α) (h : ∀ i p, ms[i]? = some p → ∀ j, j < s → w.cell? (a.add (i * s + j)) = (f p)[j]?) : Rds w (some a) ms.length s (ms.flatMap f) := by
  have hlen : ∀ l : List α, (l.flatMap f).length = l.length * s := by
    intro l
    induction l with
    | nil => simp
    | cons x l ih => simp only [List.flatMap_cons, List.length_append, ih, hf, List.length_cons, Nat.add_mul]; omega
  have hat : ∀ (l : List α) (i : Nat) (p : α) (j : Nat), l[i]? = some p → j < s → (l.flatMap f)[i * s + j]? = (f p)[j]? := by
    intro l
    induction l with
    | nil => intro i p j h; simp at h
    | cons q l ih =>
      intro i p j h hj
      cases i with
      | zero =>
        simp at h; subst h
        rw [List.flatMap_cons, Nat.zero_mul, Nat.zero_add, List.getElem?_append_left (by rw [hf]; exact hj)]
      | succ i =>
        rw [List.flatMap_cons, List.getElem?_append_right (by rw [hf, Nat.add_mul]; omega), hf, show (i + 1) * s + j - s = i * s + j by rw [Nat.add_mul]; omega]
        exact ih i p j (by simpa using h) hj
  refine ⟨hlen ms, (fun h => by cases h), fun ad had j u hu => ?_⟩
  cases had
  have hj : j < ms.length * s := by rw [← hlen]; exact (List.getElem?_eq_some_iff.1 hu).1
  have hd : j / s < ms.length := Nat.div_lt_of_lt_mul (by rw [Nat.mul_comm]; exact hj)
  have hm : j % s < s := Nat.mod_lt _ hs
  have he : j / s * s + j % s = j := by rw [Nat.mul_comm]; exact Nat.div_add_mod j s
  have hp : ms[j / s]? = some ms[j / s] := List.getElem?_eq_getElem hd
  rw [← he, h _ _ hp _ hm, ← hat _ _ _ _ hp hm, he, hu]
theorem below_of {P : Program} {f : FuncId} {args : Array Value} {R : World → Prop} {v : Value} (h : Con P f args [] R (fun u H' => u = v ∧ H' = [])) (W : World) (hR : R W) : Calls P f args W fun e W' => e = .returned v ∧ Below W.heap.size W W' := by
  refine (h W (fun c hc => by cases hc) List.Pairwise.nil hR).mono ?_
  rintro e w' ⟨u, H1, ⟨rfl, rfl⟩, rfl, hI⟩
  exact ⟨rfl, ⟨hI.kp.os, hI.kp.tape, hI.kp.output, hI.kp.size, fun k hk => hI.kp.block k hk (by rintro ⟨_, h, _⟩; cases h)⟩⟩
end Go.Proofs.Ytalafklnnohlgaa.X
namespace Go.Proofs.Ytalafklnnohlgaa.X
open Go.RowKit
set_option linter.unusedVariables false
set_option linter.unusedSimpArgs false

theorem str_at (l : List Int) (j : Nat) : (strOfNums l)[j]? = (l[j]?).map (fun n => UInt8.ofNat n.toNat) := by
  rcases Nat.lt_or_ge j l.length with h | h
  · have h2 : j < (strOfNums l).size := by rw [strOfNums_size]; exact h
    rw [getElem?_pos _ j h2, List.getElem?_eq_getElem h]
    simp only [Option.map_some, Option.some.injEq]
    show (strOfNums l).data[j] = _
    simp [strOfNums]
  · have h2 : ¬ j < (strOfNums l).size := by rw [strOfNums_size]; omega
    rw [getElem?_neg _ j h2, List.getElem?_eq_none h]
    rfl
section
variable {P : Program} {E : Env} {N : Nat} {m : List (Nat × Value)} {H : List Ck} {Q : Exit → Act → World → Prop} {ops : Array Oper} {rest : List Oper}
variable {ty t t2 : TypeId} {pos : String} {af : Array Edge} {g : Option (Nat × Bool)} {d : Nat} {x y z : Operand}
theorem WL.lenS (l : List Int) (ht : P.underlying t = some .string) (hw : Wd ops m g = some true) (hd : d < N) (hx : ev m x = some (.string (strOfNums l)))
    (h : WL P E N ops Q ((d, .int .i64 l.length) :: m) H rest) : WL P E N ops Q m H (⟨some d, .call { callee := .builtin .len, args := #[x], argTypes := #[t] }, ty, pos, af, g⟩ :: rest) :=
  WL.val _ hw hd (fun a w hF hI => by
    simp only [execOp, resolve, invoke, List.map_toArray, List.map_cons, List.map_nil, hF.eval hx]
    simp [builtin, Builtin.len_, run_underlying ht, goInt, strOfNums_size]) h
theorem WL.idxS (l : List Int) (k : IntKind) (j : Int) (c : Int) (ht : P.underlying t = some .string) (hw : Wd ops m g = some true) (hd : d < N) (hx : ev m x = some (.string (strOfNums l))) (hy : ev m y = some (.int k j)) (h0 : 0 ≤ j) (hc : l[j.toNat]? = some c) (h8 : 0 ≤ c ∧ c < 256)
    (h : WL P E N ops Q ((d, .int .u8 c) :: m) H rest) : WL P E N ops Q m H (⟨some d, .index t x y, ty, pos, af, g⟩ :: rest) :=
  WL.index _ _ _ hw hd hx hy (fun w => by
    have h2 : (UInt8.ofNat c.toNat).toNat = c.toNat := by rw [UInt8.toNat_ofNat']; omega
    have h3 : ((c.toNat : Nat) : Int) = c := by omega
    simp [Instr.index, asIntOf, run_underlying ht, h0, str_at, hc, h2, h3]) h
theorem WL.idxA (gb j0 len e s : Nat) (k : IntKind) (j : Int) (hw : Wd ops m g = some true) (hd : d < N) (hx : ev m x = some (.pointer (some ⟨gb, j0, none⟩))) (hy : ev m y = some (.int k j))
    (ht : P.underlying t = some (.array len e)) (hs : ∀ w, (sizeOf e).run P w = .ok s w) (h0 : 0 ≤ j) (h1 : j < len)
    (h : WL P E N ops Q ((d, .pointer (some ⟨gb, j0 + j.toNat * s, none⟩)) :: m) H rest) : WL P E N ops Q m H (⟨some d, .indexAddr t x y, ty, pos, af, g⟩ :: rest) :=
  WL.val _ hw hd (fun a w hF hI => by
    simp only [execOp, hF.eval hx, hF.eval hy, Instr.indexAt, Instr.sureAddr]
    simp [asIntOf, run_underlying ht, hs w, h0, h1, add_at]) h
theorem WL.range (s : ByteArray) (ht : P.underlying t = some .string) (hw : Wd ops m g = some true) (hd : d < N) (hx : ev m x = some (.string s))
    (h : ∀ r, WL P E N ops Q ((d, .pointer (some ⟨r, 0, none⟩)) :: m) (.obj r (.stringIter s 0) :: H) rest) : WL P E N ops Q m H (⟨some d, .range t x, ty, pos, af, g⟩ :: rest) :=
  WL.gen (fun v H' => ∃ r, v = .pointer (some ⟨r, 0, none⟩) ∧ H' = .obj r (.stringIter s 0) :: H) hw hd
    (fun a w hF hI => ⟨_, _, _, by
      simp only [execOp, hF.eval hx, Instr.range]
      simp [run_underlying ht, newObj, Sem.run], ⟨_, rfl, rfl⟩, hI.add (World.grownBy_alloc w _ none) (heap_push w _) (fun k hk => by simp only [Ck.fp, Option.some.injEq] at hk; omega)⟩)
    (fun v H' hC => by obtain ⟨r, rfl, rfl⟩ := hC; exact h r)
theorem WL.next (i r : Nat) (s : ByteArray) (p c n : Nat) (hw : Wd ops m g = some true) (hd : d < N) (hx : ev m x = some (.pointer (some ⟨r, 0, none⟩))) (hi : H[i]? = some (.obj r (.stringIter s p))) (hp : p < s.size) (hc : Utf8.decode s p = (c, n))
    (h : WL P E N ops Q ((d, .tuple #[.bool true, .int .i64 p, .int .i32 c]) :: m) (H.set i (.obj r (.stringIter s (p + n)))) rest) : WL P E N ops Q m H (⟨some d, .next x true, ty, pos, af, g⟩ :: rest) :=
  WL.gen (fun v H' => v = .tuple #[.bool true, .int .i64 p, .int .i32 c] ∧ H' = H.set i (.obj r (.stringIter s (p + n)))) hw hd
    (fun a w hF hI => by
      have hb : w.heap[r]? = some (.stringIter s p) := hI.ok _ (List.mem_of_getElem? hi)
      have hlt : r < w.heap.size := (Array.getElem?_eq_some_iff.1 hb).1
      refine ⟨_, _, _, ?_, ⟨rfl, rfl⟩, hI.change (c' := .obj r (.stringIter s (p + n))) hi (grownBy_set w r (.stringIter s (p + n))) ?_ (fun k hk => .inl hk)⟩
      · simp only [execOp, hF.eval hx, Instr.next]
        simp [getObj, setObj, Sem.run, hb, hp, hc, goInt]
      · show (w.heap.setIfInBounds r _)[r]? = some _
        simp [hlt])
    (fun v H' hC => by obtain ⟨rfl, rfl⟩ := hC; exact h)
theorem WL.nexte (i r : Nat) (s : ByteArray) (p : Nat) (hw : Wd ops m g = some true) (hd : d < N) (hx : ev m x = some (.pointer (some ⟨r, 0, none⟩))) (hi : H[i]? = some (.obj r (.stringIter s p))) (hp : ¬ p < s.size)
    (h : WL P E N ops Q ((d, .tuple #[.bool false]) :: m) H rest) : WL P E N ops Q m H (⟨some d, .next x true, ty, pos, af, g⟩ :: rest) :=
  WL.val _ hw hd
    (fun a w hF hI => by
      have hb : w.heap[r]? = some (.stringIter s p) := hI.ok _ (List.mem_of_getElem? hi)
      simp only [execOp, hF.eval hx, Instr.next]
      simp [getObj, Sem.run, hb, hp]) h
end
end Go.Proofs.Ytalafklnnohlgaa.X
namespace Go.Proofs.Ytalafklnnohlgaa.X
open Go.RowKit Go.Proofs.YtalafklnnohlgaaW.PrintLast
set_option linter.unusedVariables false
set_option linter.unusedSimpArgs false
section
variable {P : Program} {E : Env} {N : Nat} {m : List (Nat × Value)} {H : List Ck} {Q : Exit → Act → World → Prop} {ops : Array Oper} {HS : List Ck} {ds : List Nat} {fuel : Nat}
variable {ty t : TypeId} {pos : String} {af : Array Edge} {g : Option (Nat × Bool)} {d : Nat}
/-- What an operation's coming up asks. -/
def St (P : Program) (E : Env) (N : Nat) (ops : Array Oper) (Q : Exit → Act → World → Prop) (HS : List Ck) (ds : List Nat) (fuel : Nat) (l' : Array Bool) (m : List (Nat × Value)) (H : List Ck) (o : Oper) : Prop :=
  ∀ a w, Fr N m a → I E H w → ∀ K : Act → World → Prop, (∀ m' H' a' w', Fr N m' a' → I E H' w' → HS.Sublist H' → WA P E N ops Q HS ds fuel l' m' H' → K a' w') → o.wp P a w K Q
theorem WA.two {l : Array Bool} {o1 o2 : Oper} (i j : Nat) (li lj : Array Bool) (hi : ops[i]? = some o1) (hj : ops[j]? = some o2) (hwi : Wd ops m o1.guard = some true) (hwj : Wd ops m o2.guard = some true)
    (hc : (Region.ready .any ops l == [i, j] && l.setIfInBounds i true == li && l.setIfInBounds j true == lj) = true) (hdi : List.contains ds i = false) (hdj : List.contains ds j = false)
    (h1 : St P E N ops Q HS ds fuel li m H o1) (h2 : St P E N ops Q HS ds fuel lj m H o2) : WA P E N ops Q HS ds (fuel + 1) l m H := fun a w hF hI => by
  refine two_ li lj hi hj rfl rfl hc (by simpa using hdi) (by simpa using hdj) (fun K hK => ?_) (fun K hK => ?_)
  · rw [if_pos (Wd.spec hF hwi)]
    exact h1 a w hF hI K (fun m' H' a' w' hF' hI' hs hW => hK.out _ _ (oks_of hI' hs) (fun _ => hW _ _ hF' hI'))
  · rw [if_pos (Wd.spec hF hwj)]
    exact h2 a w hF hI K (fun m' H' a' w' hF' hI' hs hW => hK.out _ _ (oks_of hI' hs) (fun _ => hW _ _ hF' hI'))
theorem St.call {l' : Array Bool} {x : Operand} {ts : Array TypeId} {ss : List Operand} {f : FuncId} {fn : Func} (first cap vs : List Value) (args : Array Value) (H1 Hf : List Ck) {R : World → Prop} {C : Value → List Ck → Prop} (hc : Con P f args H1 R C)
    (hd : d < N) (hx : ev m x = some (.func (.func f) first.toArray cap.toArray)) (hf : P.funcs[f]? = some fn) (hname : (fn.name == "runtime.NumGoroutine") = false) (hb : fn.body.isSome = true)
    (has : ss.map (ev m) = vs.map some) (hargs : (first ++ vs ++ cap).toArray = args) (hp : (H1 ++ Hf).Perm H) (hR : ∀ w, I E H w → R w)
    (h : ∀ v H1', C v H1' → HS.Sublist (H1' ++ Hf) ∧ WA P E N ops Q HS ds fuel l' ((d, v) :: m) (H1' ++ Hf)) : St P E N ops Q HS ds fuel l' m H ⟨some d, .call { callee := .value x, args := ss.toArray, argTypes := ts }, ty, pos, af, g⟩ := fun a w hF hI K hK => by
  unfold Oper.wp
  rw [run_call (args := args) hf hname hb (hF.eval hx) (by rw [List.map_toArray, evals hF _ _ has, ← hargs]; simp), Oper.upon_enter]
  have hI2 := hI.perm hp
  have hpw := List.pairwise_append.1 hI2.dj
  refine (hc w (fun c hc => hI2.ok c (List.mem_append_left _ hc)) hpw.1 (hR w hI)).mono ?_
  rintro e w' ⟨v, H1', hC, rfl, hI'⟩
  exact hK _ _ _ _ (hF.put hd v) (hI2.frame hI') (h v H1' hC).1 (h v H1' hC).2
theorem St.alloc {l' : Array Bool} (z : Value) (cs : List Value) (hd : d < N) (hz : ∀ w, (zeroValue t).run P w = .ok z w) (hc : z.cells.toList = cs) (hs : HS.Sublist H)
    (h : ∀ gb, WA P E N ops Q HS ds fuel l' ((d, .pointer (some ⟨gb, 0, none⟩)) :: m) (.blk gb cs t :: H)) : St P E N ops Q HS ds fuel l' m H ⟨some d, .alloc t, ty, pos, af, g⟩ := fun a w hF hI K hK => by
  have hrun : (execOp a.eval ⟨some d, .alloc t, ty, pos, af, g⟩).run P w = .ok (.value (.pointer (some ⟨w.heap.size, 0, none⟩))) (w.alloc (.cells cs.toArray t (0, 0))) := by
    rw [← hc]
    simp only [execOp, Instr.alloc]
    simp [hz w, newVar, newRow, newObj, Sem.run]
  unfold Oper.wp
  rw [hrun, Oper.upon_value]
  exact hK _ _ _ _ (hF.put hd _) (hI.add (c := .blk w.heap.size cs t) (World.grownBy_alloc w _ none) (heap_push w _) (fun q hq => by simp only [Ck.fp, Option.some.injEq] at hq; omega)) (.cons _ hs) (h _)
end
end Go.Proofs.Ytalafklnnohlgaa.X
