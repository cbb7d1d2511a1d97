/- What stands in memory where an argument reads well: a struct's fields, a slice's elements. No condition: each holds of every program. -/
import Derived.Test.YtalafklnnohlgaaX12
import Derived.Deep.SlicePairs
import Derived.ChangeArms
namespace Go.Proofs.Ytalafklnnohlgaa.X
open Go.RowKit Go.ChangeShapes Go.WideShapes
set_option linter.unusedVariables false

def Opn {T : Type} (enc : TypeId × Value → T) (P : Program) (w : World) (t : TypeId) (cs : List Value) : Prop := ∃ n x, DataW.trod enc P w 0 (fun _ => true) true n t cs = some x
section
variable {T : Type} {enc : TypeId × Value → T} {P : Program} {w : World} {t : TypeId} {cs : List Value}
theorem Opn.of {v : Value} {d : DataW T} {p : List MemPlace} (h : DataW.Trod enc P w 0 (fun _ => true) true t v d p) : Opn enc P w t v.cells.toList := by
  obtain ⟨n, hn⟩ := h
  exact ⟨n, _, hn⟩
theorem Opn.fld {fs : Array Field} {f : Field} (h : Opn enc P w t cs) (ht : P.underlying t = some (.struct fs)) (j ty o n : Nat) (hj : fs[j]? = some f) (hf : (f.type, f.offset) = (ty, o)) (hc : P.cellsOf ty = n) : Opn enc P w ty ((cs.drop o).take n) := by
  obtain ⟨m, x, h⟩ := h
  obtain ⟨xs, k, _, _, _, hl, hg⟩ := DataW.trod_struct ht h
  have h1 := hg j f hj
  cases hf
  subst hc
  have hjl : j < xs.length := by rw [hl]; exact (Array.getElem?_eq_some_iff.1 hj).1
  exact ⟨k, _, h1.trans (List.getElem?_eq_getElem hjl)⟩
theorem Opn.len {fs : Array Field} (h : Opn enc P w t cs) (ht : P.underlying t = some (.struct fs)) {n : Nat} (hc : P.cellsOf t = n) : cs.length = n := by
  obtain ⟨m, x, h⟩ := h
  obtain ⟨xs, k, _, _, hl, _⟩ := DataW.trod_struct ht h
  exact hl.trans hc
theorem Opn.int {k : IntKind} (h : Opn enc P w t cs) (ht : P.underlying t = some (.int k)) : ∃ n, cs = [.int k n] ∧ (Lit.int k n).wf = true := by
  obtain ⟨m, x, h⟩ := h
  cases m with
  | zero => simp [DataW.trod] at h
  | succ n => unfold DataW.trod at h; rw [ht] at h; split at h <;> simp_all
theorem Opn.bool (h : Opn enc P w t cs) (ht : P.underlying t = some .bool) : ∃ b, cs = [.bool b] := by
  obtain ⟨m, x, h⟩ := h
  cases m with
  | zero => simp [DataW.trod] at h
  | succ n => unfold DataW.trod at h; rw [ht] at h; split at h <;> simp_all
theorem Opn.sl {e s : TypeId} (h : Opn enc P w t cs) (ht : P.underlying t = some (.slice e)) (hc : P.cellsOf e = s) : cs = [.slice none 0 0] ∨ ∃ a len cap, cs = [.slice (some a) len cap] ∧ len ≤ cap ∧ cap ≤ maxLen ∧ ∀ i, i < len → ∃ cs', cs'.length = s ∧ (∀ j, j < s → w.cell? (a.add (i * s + j)) = cs'[j]?) ∧ Opn enc P w e cs' := by
  obtain ⟨m, x, h⟩ := h
  rcases Go.Deep.open_slice ht h with ⟨h0, _⟩ | ⟨a, len, cap, m, n, D, Pl, hcs, _, hl, hm, hmm, _, hi⟩
  · exact .inl h0
  · refine .inr ⟨a, len, cap, hcs, hl, hm, fun i hil => ?_⟩
    obtain ⟨cs', h1, h2⟩ := hi i (by rw [hmm]; split <;> omega)
    rw [hc] at h1
    obtain ⟨_, h4, h5⟩ := World.cells?_some h1
    exact ⟨cs', h4, (fun j hj => by rw [← h5 j hj, Go.Deep.add_add]), ⟨_, _, h2⟩⟩
end
theorem pick_list {α : Type} (Q : Nat → α → Prop) : ∀ (len : Nat), (∀ i, i < len → ∃ p, Q i p) → ∃ ms : List α, ms.length = len ∧ ∀ i p, ms[i]? = some p → Q i p
  | 0, _ => ⟨[], rfl, fun i p h => by simp at h⟩
  | n + 1, h => by
    obtain ⟨ms, hl, hq⟩ := pick_list Q n (fun i hi => h i (by omega))
    obtain ⟨p, hp⟩ := h n (by omega)
    refine ⟨ms ++ [p], by simp [hl], fun i q hi => ?_⟩
    rcases Nat.lt_or_ge i n with h1 | h1
    · rw [List.getElem?_append_left (by omega)] at hi; exact hq i q hi
    · rw [List.getElem?_append_right (by omega)] at hi
      obtain rfl : i = n := by
        rcases Nat.lt_or_ge n i with h2 | h2
        · rw [List.getElem?_eq_none (by simp; omega)] at hi; cases hi
        · omega
      simp [hl] at hi
      subst hi; exact hp
/-- A row out of its elements: whatever each of them is. -/
theorem rds_flat {α : Type} {w : World} {a : Addr} {s : Nat} {f : α → List Value} (hf : ∀ p, (f p).length = s) (hs : 0 < s) (ms : List α) (h : ∀ i p, ms[i]? = some p → ∀ j, j < s → w.cell? (a.add (i * s + j)) = (f p)[j]?) : Rds w (some a) ms.length s (ms.flatMap f) := by
  have hlen : ∀ l : List α, (l.flatMap f).length = l.length * s := by
    intro l
    induction l with
    | nil => simp
    | cons x l ih => simp only [List.flatMap_cons, List.length_append, ih, hf, List.length_cons, Nat.add_mul]; omega
  have hat : ∀ (l : List α) (i : Nat) (p : α) (j : Nat), l[i]? = some p → j < s → (l.flatMap f)[i * s + j]? = (f p)[j]? := by
    intro l
    induction l with
    | nil => intro i p j h; simp at h
    | cons q l ih =>
      intro i p j h hj
      cases i with
      | zero =>
        simp at h; subst h
        rw [List.flatMap_cons, Nat.zero_mul, Nat.zero_add, List.getElem?_append_left (by rw [hf]; exact hj)]
      | succ i =>
        rw [List.flatMap_cons, List.getElem?_append_right (by rw [hf, Nat.add_mul]; omega), hf, show (i + 1) * s + j - s = i * s + j by rw [Nat.add_mul]; omega]
        exact ih i p j (by simpa using h) hj
  refine ⟨hlen ms, (fun h => by cases h), fun ad had j u hu => ?_⟩
  cases had
  have hj : j < ms.length * s := by rw [← hlen]; exact (List.getElem?_eq_some_iff.1 hu).1
  have hd : j / s < ms.length := Nat.div_lt_of_lt_mul (by rw [Nat.mul_comm]; exact hj)
  have hm : j % s < s := Nat.mod_lt _ hs
  have he : j / s * s + j % s = j := by rw [Nat.mul_comm]; exact Nat.div_add_mod j s
  have hp : ms[j / s]? = some ms[j / s] := List.getElem?_eq_getElem hd
  rw [← he, h _ _ hp _ hm, ← hat _ _ _ _ hp hm, he, hu]
theorem below_of {P : Program} {f : FuncId} {args : Array Value} {R : World → Prop} {v : Value} (h : Con P f args [] R (fun u H' => u = v ∧ H' = [])) (W : World) (hR : R W) : Calls P f args W fun e W' => e = .returned v ∧ Below W.heap.size W W' := by
  refine (h W (fun c hc => by cases hc) List.Pairwise.nil hR).mono ?_
  rintro e w' ⟨u, H1, ⟨rfl, rfl⟩, rfl, hI⟩
  exact ⟨rfl, ⟨hI.kp.os, hI.kp.tape, hI.kp.output, hI.kp.size, fun k hk => hI.kp.block k hk (by rintro ⟨_, h, _⟩; cases h)⟩⟩
end Go.Proofs.Ytalafklnnohlgaa.X
