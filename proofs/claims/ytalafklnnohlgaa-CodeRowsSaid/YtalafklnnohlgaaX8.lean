/- Slices of slices, and what an order drawn asks of a panic. No condition: every rule holds of every program. -/
import Derived.Test.YtalafklnnohlgaaX7
namespace Go.Proofs.Ytalafklnnohlgaa.X
open Go.RowKit Go.Proofs.YtalafklnnohlgaaW.PrintLast
set_option linter.unusedVariables false
set_option linter.unusedSimpArgs false

theorem Qp.body {P : Program} {fn : Func} {R : Ending → World → Prop} : Qp (bodyPost P fn R) := fun d v c a w h => by cases d <;> exact h
theorem Qp.then {K : Act → World → Prop} {Q : Exit → Act → World → Prop} (h : Qp Q) : Qp (Exit.then K Q) := fun d v c a w hh => h d v c a w hh
theorem Qp.blk {id : Nat} {Q : Exit → Act → World → Prop} (h : Qp Q) : Qp (Exit.inBlock id Q) := fun d v c a w hh => h d v c a w hh

/-- Where a slice of a slice begins. -/
def cutA (A : Option Addr) (c l s : Nat) : Option Addr := if c = l then A else A.map (·.add (l * s))
theorem cutA_0 (A : Option Addr) (c s : Nat) : cutA A c 0 s = A := by
  unfold cutA
  split
  · rfl
  · cases A with
    | none => rfl
    | some a => simp [Addr.add]
theorem add_add (a : Addr) (i j : Nat) (hi : i ≠ 0) : (a.add i).add j = a.add (i + j) := by
  unfold Addr.add
  rw [if_neg hi, if_neg (by omega : ¬ i + j = 0)]
  split
  · rename_i h; subst h; simp
  · simp [Nat.add_assoc]
theorem add_add' (a : Addr) (i j : Nat) : (a.add i).add j = a.add (i + j) := by
  by_cases hi : i = 0
  · subst hi; simp [Addr.add]
  · exact add_add a i j hi
theorem Rds.cut {w : World} {A : Option Addr} {n s c : Nat} {xs : List Value} (h : Rds w A n s xs) (l k : Nat) (hl : l ≤ k) (hk : k ≤ n) (hn : n ≤ c) : Rds w (cutA A c l s) (k - l) s ((xs.drop (l * s)).take ((k - l) * s)) := by
  have hlen := h.len
  have hms : l * s + (k - l) * s ≤ n * s := by rw [← Nat.add_mul]; exact Nat.mul_le_mul_right s (by omega)
  refine ⟨?_, fun hA => ?_, fun ad had j u hu => ?_⟩
  · simp only [List.length_take, List.length_drop, hlen]; omega
  · unfold cutA at hA
    split at hA
    · omega
    · cases A with
      | none => have := h.nil rfl; omega
      | some a => simp at hA
  · rw [List.getElem?_take] at hu
    split at hu
    · rw [List.getElem?_drop] at hu
      unfold cutA at had
      split at had
      · have : (k - l) * s = 0 := by rw [show k - l = 0 by omega]; simp
        omega
      · cases A with
        | none => simp at had
        | some a => simp at had; subst had; rw [add_add']; exact h.at_ a rfl _ _ hu
    · cases hu

section
variable {P : Program} {E : Env} {N : Nat} {m : List (Nat × Value)} {H : List Ck} {Q : Exit → Act → World → Prop} {ops : Array Oper} {rest : List Oper}
variable {ty t t2 : TypeId} {pos : String} {af : Array Edge} {g : Option (Nat × Bool)} {d : Nat} {x y z : Operand}
theorem WL.fact {l : List Oper} (p : Prop) (hp : ∀ w, I E H w → p) (h : p → WL P E N ops Q m H l) : WL P E N ops Q m H l := fun a w hF hI => h (hp w hI) a w hF hI
theorem WC.fact {c : Code} (p : Prop) (hp : ∀ w, I E H w → p) (h : p → WC P E N Q m H c) : WC P E N Q m H c := fun a w hF hI => h (hp w hI) a w hF hI
theorem QE.fact {e : Exit} (p : Prop) (hp : ∀ w, I E H w → p) (h : p → QE E N Q e m H) : QE E N Q e m H := fun a w hF hI => h (hp w hI) a w hF hI
/-- The row of no element. -/
theorem I.nilrow {w : World} (e s : Nat) (h : I E H w) : I E (.row (.slice none 0 0) e s 0 [] :: H) w :=
  ⟨fun c hc => by
    rcases List.mem_cons.1 hc with rfl | hc
    · exact ⟨by simp, .inl ⟨rfl, rfl⟩⟩
    · exact h.ok c hc, List.pairwise_cons.2 ⟨fun d _ k hk _ => by simp [Ck.fp, Value.ownBlock] at hk, h.dj⟩, fun c hc k hk => by
    rcases List.mem_cons.1 hc with rfl | hc
    · simp [Ck.fp, Value.ownBlock] at hk
    · exact h.nw c hc k hk, h.kp⟩
theorem WL.nilrow {l : List Oper} (e s : Nat) (h : WL P E N ops Q m (.row (.slice none 0 0) e s 0 [] :: H) l) : WL P E N ops Q m H l := fun a w hF hI => h a w hF (hI.nilrow e s)
theorem WC.nilrow {c : Code} (e s : Nat) (h : WC P E N Q m (.row (.slice none 0 0) e s 0 [] :: H) c) : WC P E N Q m H c := fun a w hF hI => h a w hF (hI.nilrow e s)
theorem WL.build {ps : List (Nat × Operand)} (vs : List (Nat × Value)) (v : Value) (hw : Wd ops m g = some true) (hd : d < N) (hps : ps.map (fun p => (p.1, ev m p.2)) = vs.map (fun p => (p.1, some p.2)))
    (hr : ∀ w, (Instr.build t vs.toArray).run P w = .ok v w) (h : WL P E N ops Q ((d, v) :: m) H rest) : WL P E N ops Q m H (⟨some d, .build t ps.toArray, ty, pos, af, g⟩ :: rest) :=
  WL.val v hw hd (fun a w hF hI => by simp only [execOp, List.map_toArray, parts_eval hF _ _ hps]; simp [hr w]) h
theorem row_cell {w : World} {i e n c : Nat} {A : Option Addr} {xs : List Value} {ad : Addr} {j : Int} {v : Value} (hI : I E H w) (hi : H[i]? = some (.row (.slice A n c) e 1 n xs)) (had : A = some ad) (hj : xs[j.toNat]? = some v) : w.cell? (ad.add (j.toNat * 1)) = some v := by
  rw [Nat.mul_one]; exact (row_reads hI hi).2.at_ ad had _ _ hj
theorem WL.idxr (i e s n c : Nat) (k : IntKind) (A : Option Addr) (j : Int) (xs : List Value) (hi : H[i]? = some (.row (.slice A n c) e s n xs)) (hw : Wd ops m g = some true) (hd : d < N) (hx : ev m x = some (.slice A n c)) (hy : ev m y = some (.int k j))
    (ht : P.underlying t = some (.slice e)) (hs : ∀ w, (sizeOf e).run P w = .ok s w) (h0 : 0 ≤ j) (h1 : j < n)
    (h : ∀ ad, A = some ad → WL P E N ops Q ((d, .pointer (some (ad.add (j.toNat * s)))) :: m) H rest) : WL P E N ops Q m H (⟨some d, .indexAddr t x y, ty, pos, af, g⟩ :: rest) :=
  WL.idx e s n c k A j hw hd hx hy ht hs h0 h1 (fun w hI => (row_reads hI hi).2.nil) h
/-- A slice that was given, and is not ours to change. -/
theorem Rds.cell {w : World} {A : Option Addr} {n : Nat} {xs : List Value} {ad : Addr} {j : Int} {v : Value} (h : Rds w A n 1 xs) (had : A = some ad) (hj : xs[j.toNat]? = some v) : w.cell? (ad.add (j.toNat * 1)) = some v := by
  rw [Nat.mul_one]; exact h.at_ ad had _ _ hj
theorem WC.know {c : Code} {s : Nat} {u : Value} (v : Value) (hs : lk m s = some u) (e : u = v) (h : WC P E N Q ((s, v) :: m) H c) : WC P E N Q m H c := by
  subst e
  refine fun a w hF hI => h a w ⟨hF.size, hF.defers, fun i x hx => ?_⟩ hI
  simp only [lk] at hx
  cases hb : Nat.beq s i with
  | true => rw [hb] at hx; have := Nat.eq_of_beq_eq_true hb; subst this; simp at hx; subst hx; exact hF.get _ _ hs
  | false => rw [hb] at hx; exact hF.get _ _ hx
theorem WL.index {x y : Operand} (vx vy v : Value) (hw : Wd ops m g = some true) (hd : d < N) (hx : ev m x = some vx) (hy : ev m y = some vy) (hr : ∀ w, (Instr.index t vx vy).run P w = .ok v w)
    (h : WL P E N ops Q ((d, v) :: m) H rest) : WL P E N ops Q m H (⟨some d, .index t x y, ty, pos, af, g⟩ :: rest) :=
  WL.val v hw hd (fun a w hF hI => by simp only [execOp, hF.eval hx, hF.eval hy]; simp [hr w]) h
theorem und_elem {e : TypeId} (ht : P.underlying t = some (.slice e)) : P.underlying t = some (.slice (P.elem t)) ∧ P.elem t = e := by
  have : P.elem t = e := by unfold Program.elem; rw [ht]
  exact ⟨this ▸ ht, this⟩
theorem cut_l {e s : TypeId} (A : Option Addr) (n c l : Nat) (k : IntKind) (ht : P.underlying t = some (.slice e)) (hs : ∀ w, (sizeOf e).run P w = .ok s w) (hl : l ≤ n) (w : World) :
    (Instr.sliceAt t (.slice A n c) (some (.int k l)) none none).run P w = .ok (.slice (cutA A c l s) (n - l) (c - l)) w := by
  obtain ⟨h1, h2⟩ := und_elem ht
  rw [run_sliceAt_slice _ _ _ _ _ _ h1, run_slice_l _ _ _ _ _ h1 k l (by omega) (by omega), h2, hs w]
  simp [Result.andThen, sliced, cutA]
theorem cut_h {e s : TypeId} (A : Option Addr) (n c h : Nat) (k : IntKind) (ht : P.underlying t = some (.slice e)) (hs : ∀ w, (sizeOf e).run P w = .ok s w) (hl : h ≤ c) (w : World) :
    (Instr.sliceAt t (.slice A n c) none (some (.int k h)) none).run P w = .ok (.slice A h c) w := by
  obtain ⟨h1, h2⟩ := und_elem ht
  rw [run_sliceAt_slice _ _ _ _ _ _ h1, run_slice_h _ _ _ _ _ h1 k h (by omega) (by omega), h2, hs w]
  have := cutA_0 A c s
  simp only [cutA] at this
  simp only [Result.andThen, sliced, Int.toNat_natCast, Nat.sub_zero, this]
theorem cut_lh {e s : TypeId} (A : Option Addr) (n c l h : Nat) (k k' : IntKind) (ht : P.underlying t = some (.slice e)) (hs : ∀ w, (sizeOf e).run P w = .ok s w) (hl : l ≤ h) (hh : h ≤ c) (w : World) :
    (Instr.sliceAt t (.slice A n c) (some (.int k l)) (some (.int k' h)) none).run P w = .ok (.slice (cutA A c l s) (h - l) (c - l)) w := by
  obtain ⟨h1, h2⟩ := und_elem ht
  rw [run_sliceAt_slice _ _ _ _ _ _ h1, run_slice_lh _ _ _ _ _ h1 k k' l h (by omega) (by omega) (by omega), h2, hs w]
  simp [Result.andThen, sliced, cutA]
theorem WL.cutl {e s : TypeId} (A : Option Addr) (n c l : Nat) (k : IntKind) (ht : P.underlying t = some (.slice e)) (hs : ∀ w, (sizeOf e).run P w = .ok s w) (hl : l ≤ n) (hw : Wd ops m g = some true) (hd : d < N) (hx : ev m x = some (.slice A n c)) (hy : ev m y = some (.int k l))
    (h : WL P E N ops Q ((d, .slice (cutA A c l s) (n - l) (c - l)) :: m) H rest) : WL P E N ops Q m H (⟨some d, .slice t x (some y) none none, ty, pos, af, g⟩ :: rest) :=
  WL.slice _ _ (some (.int k l)) none none hw hd hx (by simp [hy]) rfl rfl (fun w _ => cut_l A n c l k ht hs hl w) h
theorem WL.cuth {e s : TypeId} (A : Option Addr) (n c l : Nat) (k : IntKind) (ht : P.underlying t = some (.slice e)) (hs : ∀ w, (sizeOf e).run P w = .ok s w) (hl : l ≤ c) (hw : Wd ops m g = some true) (hd : d < N) (hx : ev m x = some (.slice A n c)) (hy : ev m y = some (.int k l))
    (h : WL P E N ops Q ((d, .slice A l c) :: m) H rest) : WL P E N ops Q m H (⟨some d, .slice t x none (some y) none, ty, pos, af, g⟩ :: rest) :=
  WL.slice _ _ none (some (.int k l)) none hw hd hx rfl (by simp [hy]) rfl (fun w _ => cut_h A n c l k ht hs hl w) h
theorem WL.cutlh {e s : TypeId} (A : Option Addr) (n c l h' : Nat) (k k' : IntKind) (ht : P.underlying t = some (.slice e)) (hs : ∀ w, (sizeOf e).run P w = .ok s w) (hl : l ≤ h') (hh : h' ≤ c) (hw : Wd ops m g = some true) (hd : d < N) (hx : ev m x = some (.slice A n c)) (hy : ev m y = some (.int k l)) (hz : ev m z = some (.int k' h'))
    (h : WL P E N ops Q ((d, .slice (cutA A c l s) (h' - l) (c - l)) :: m) H rest) : WL P E N ops Q m H (⟨some d, .slice t x (some y) (some z) none, ty, pos, af, g⟩ :: rest) :=
  WL.slice _ _ (some (.int k l)) (some (.int k' h')) none hw hd hx (by simp [hy]) (by simp [hz]) rfl (fun w _ => cut_lh A n c l h' k k' ht hs hl hh w) h
theorem WA.cutl {HS : List Ck} {ds : List Nat} {fuel : Nat} {ls : Array Bool} {e s : TypeId} (i : Nat) (l' : Array Bool) (A : Option Addr) (n c l : Nat) (k : IntKind) (ht : P.underlying t = some (.slice e)) (hs : ∀ w, (sizeOf e).run P w = .ok s w) (hl : l ≤ n) (hx : ev m x = some (.slice A n c)) (hy : ev m y = some (.int k l))
    (hi : ops[i]? = some ⟨some d, .slice t x (some y) none none, ty, pos, af, g⟩) (hw : Wd ops m g = some true) (hd : d < N) (hcb : anyB .any ops ls l' i = true) (hQ : Qp Q) (h : WA P E N ops Q HS ds fuel l' ((d, .slice (cutA A c l s) (n - l) (c - l)) :: m) H) : WA P E N ops Q HS ds (fuel + 1) ls m H :=
  WA.slice i l' _ _ (some (.int k l)) none none hi hw hd hcb hQ hx (by simp [hy]) rfl rfl (fun w => cut_l A n c l k ht hs hl w) h
theorem WA.cuth {HS : List Ck} {ds : List Nat} {fuel : Nat} {ls : Array Bool} {e s : TypeId} (i : Nat) (l' : Array Bool) (A : Option Addr) (n c l : Nat) (k : IntKind) (ht : P.underlying t = some (.slice e)) (hs : ∀ w, (sizeOf e).run P w = .ok s w) (hl : l ≤ c) (hx : ev m x = some (.slice A n c)) (hy : ev m y = some (.int k l))
    (hi : ops[i]? = some ⟨some d, .slice t x none (some y) none, ty, pos, af, g⟩) (hw : Wd ops m g = some true) (hd : d < N) (hcb : anyB .any ops ls l' i = true) (hQ : Qp Q) (h : WA P E N ops Q HS ds fuel l' ((d, .slice A l c) :: m) H) : WA P E N ops Q HS ds (fuel + 1) ls m H :=
  WA.slice i l' _ _ none (some (.int k l)) none hi hw hd hcb hQ hx rfl (by simp [hy]) rfl (fun w => cut_h A n c l k ht hs hl w) h
/-- An element of a slice in an order drawn: what it reads as stands while HS does. -/
theorem WA.idx {HS : List Ck} {ds : List Nat} {fuel : Nat} {ls : Array Bool} (i : Nat) (l' : Array Bool) (e s n c : Nat) (k : IntKind) (ad : Addr) (j : Int) (ht : P.underlying t = some (.slice e)) (hs : ∀ w, (sizeOf e).run P w = .ok s w) (h0 : 0 ≤ j) (h1 : j < n) (hx : ev m x = some (.slice (some ad) n c)) (hy : ev m y = some (.int k j))
    (hi : ops[i]? = some ⟨some d, .indexAddr t x y, ty, pos, af, g⟩) (hw : Wd ops m g = some true) (hd : d < N) (hcb : anyB .any ops ls l' i = true) (hQ : Qp Q)
    (h : WA P E N ops Q HS ds fuel l' ((d, .pointer (some (ad.add (j.toNat * s)))) :: m) H) : WA P E N ops Q HS ds (fuel + 1) ls m H :=
  WA.val i l' _ hi hw hd hcb hQ (fun a w hF => by
    simp only [execOp, hF.eval hx, hF.eval hy, Instr.indexAt]
    simp [asIntOf, run_underlying ht, hs w, h0, h1]) h
theorem WA.loadA {HS : List Ck} {ds : List Nat} {fuel : Nat} {ls : Array Bool} (i : Nat) (l' : Array Bool) (k gb j n : Nat) (cs vs : List Value) (tb : TypeId) (hi : ops[i]? = some ⟨some d, .load t x, ty, pos, af, g⟩) (hw : Wd ops m g = some true) (hd : d < N) (hs : HS.Sublist H) (hcb : takeB .any ops ds ls l' i = true) (hQ : Qp Q) (hx : ev m x = some (.pointer (some ⟨gb, j, none⟩)))
    (ha : ∀ w, (isAgg t).run P w = .ok true w) (hz : ∀ w, (sizeOf t).run P w = .ok n w) (hk : HS[k]? = some (.blk gb cs tb)) (hj : (cs.drop j).take n = vs) (hn : vs.length = n) (h : WA P E N ops Q HS ds fuel l' ((d, .agg vs.toArray) :: m) H) : WA P E N ops Q HS ds (fuel + 1) ls m H :=
  WA.held i l' _ hi hw hd hs hcb hQ (fun a w hF hS => by
    have hl := loadCells_list (P := P) (w := w) (ad := ⟨gb, j, none⟩) vs 0 #[] (fun q u hq => by
      have : cs[j + q]? = some u := by
        rw [← hj, List.getElem?_take] at hq
        split at hq
        · rw [List.getElem?_drop] at hq; exact hq
        · cases hq
      rw [add_at, Nat.zero_add]; exact oks_cell hS hk this)
    rw [hn] at hl
    simp only [execOp, hF.eval hx, Instr.loadAt, Instr.sureAddr, loadVar]
    simp [ha w, hz w, loadCells, hl]) h
end
end Go.Proofs.Ytalafklnnohlgaa.X
