/- The logic's rules for operations: moves, numbers, addresses, loads, stores, new memory, calls. No condition: every rule holds of every program. -/
import Derived.Test.YtalafklnnohlgaaX1
import Derived.Maps.AppendAt
import Derived.Deep.Upon
import Derived.Laws.CopyRow
import Derived.Laws.Tables
namespace Go.Proofs.Ytalafklnnohlgaa.X
open Go.RowKit
set_option linter.unusedVariables false
set_option linter.unusedSimpArgs false

/-- Is an operation carried out? -/
def Wd (ops : Array Oper) (m : List (Nat × Value)) : Option (Nat × Bool) → Option Bool
  | none => some true
  | some (i, b) => match ((ops[i]?).bind (·.dst)).bind (lk m) with
    | some (.bool c) => some (c == b)
    | _ => none

theorem Wd.spec {ops : Array Oper} {m : List (Nat × Value)} {N : Nat} {a : Act} {o : Oper} {r : Bool} (hF : Fr N m a) (h : Wd ops m o.guard = some r) : Region.wanted o (yielded ops a.tmps) = r := by
  unfold Wd at h
  unfold Region.wanted
  split at h
  · rename_i hg; rw [hg]; simpa using h
  · rename_i i b hg
    rw [hg]
    simp only
    split at h
    · rename_i c hc
      obtain ⟨s, hs, hl⟩ := Option.bind_eq_some_iff.1 hc
      have : yielded ops a.tmps i = some c := by
        unfold yielded
        rw [hs, Option.bind_some, hF.get s _ hl]
      rw [this]
      simp at h
      rw [← h]
      cases c <;> cases b <;> rfl
    · cases h

section
variable {P : Program} {E : Env} {N : Nat} {m : List (Nat × Value)} {H : List Ck} {Q : Exit → Act → World → Prop} {ops : Array Oper} {rest : List Oper}

theorem wpList_on {o : Oper} {a : Act} {w : World} (hw : Region.wanted o (yielded ops a.tmps) = true) (h : o.wp P a w (wpList P ops Q rest) Q) : wpList P ops Q (o :: rest) a w := by
  unfold wpList; rw [if_pos hw]; exact .inl h
theorem wpList_off {o : Oper} {a : Act} {w : World} (hw : Region.wanted o (yielded ops a.tmps) = false) (h : wpList P ops Q rest (a.put o.dst undef) w) : wpList P ops Q (o :: rest) a w := by
  unfold wpList; rw [if_neg (by rw [hw]; simp)]; exact h

/-- Any operation that yields a value, and may change memory. -/
theorem WL.gen {op : Op} {ty : TypeId} {pos : String} {af : Array Edge} {g : Option (Nat × Bool)} {d : Nat} (C : Value → List Ck → Prop) (hw : Wd ops m g = some true) (hd : d < N)
    (hrun : ∀ a w, Fr N m a → I E H w → ∃ v w' H', (execOp a.eval ⟨some d, op, ty, pos, af, g⟩).run P w = .ok (.value v) w' ∧ C v H' ∧ I E H' w')
    (h : ∀ v H', C v H' → WL P E N ops Q ((d, v) :: m) H' rest) : WL P E N ops Q m H (⟨some d, op, ty, pos, af, g⟩ :: rest) := by
  intro a w hF hI
  obtain ⟨v, w', H', hr, hC, hI'⟩ := hrun a w hF hI
  refine wpList_on (Wd.spec hF hw) ?_
  unfold Oper.wp
  rw [hr, Oper.upon_value]
  exact h v H' hC _ _ (hF.put hd v) hI'
theorem WL.val {op : Op} {ty : TypeId} {pos : String} {af : Array Edge} {g : Option (Nat × Bool)} {d : Nat} (v : Value) (hw : Wd ops m g = some true) (hd : d < N)
    (hrun : ∀ a w, Fr N m a → I E H w → (execOp a.eval ⟨some d, op, ty, pos, af, g⟩).run P w = .ok (.value v) w)
    (h : WL P E N ops Q ((d, v) :: m) H rest) : WL P E N ops Q m H (⟨some d, op, ty, pos, af, g⟩ :: rest) :=
  WL.gen (fun u H' => u = v ∧ H' = H) hw hd (fun a w hF hI => ⟨v, w, H, hrun a w hF hI, ⟨rfl, rfl⟩, hI⟩) (fun u H' hC => by obtain ⟨rfl, rfl⟩ := hC; exact h)
/-- An operation that is not carried out. -/
theorem WL.off {op : Op} {ty : TypeId} {pos : String} {af : Array Edge} {g : Option (Nat × Bool)} {d : Nat} (hw : Wd ops m g = some false) (hd : d < N)
    (h : WL P E N ops Q ((d, undef) :: m) H rest) : WL P E N ops Q m H (⟨some d, op, ty, pos, af, g⟩ :: rest) := fun a w hF hI =>
  wpList_off (Wd.spec hF hw) (h _ _ (hF.put hd undef) hI)
/-- A slot's value by another name. -/
theorem WL.know {l : List Oper} {s : Nat} {u : Value} (v : Value) (hs : lk m s = some u) (e : u = v) (h : WL P E N ops Q ((s, v) :: m) H l) : WL P E N ops Q m H l := by
  subst e
  refine fun a w hF hI => h a w ⟨hF.size, hF.defers, fun i x hx => ?_⟩ hI
  simp only [lk] at hx
  cases hb : Nat.beq s i with
  | true => rw [hb] at hx; have := Nat.eq_of_beq_eq_true hb; subst this; simp at hx; subst hx; exact hF.get _ _ hs
  | false => rw [hb] at hx; exact hF.get _ _ hx
theorem WL.less {l : List Oper} (m' : List (Nat × Value)) (hs : Sub m m') (h : WL P E N ops Q m' H l) : WL P E N ops Q m H l := fun a w hF hI => h a w (hF.less hs.spec) hI
theorem WL.perm {l : List Oper} (H' : List Ck) (hs : H'.Perm H) (h : WL P E N ops Q m H' l) : WL P E N ops Q m H l := fun a w hF hI => h a w hF (hI.perm hs)
theorem WL.sub {l : List Oper} (H' : List Ck) (hs : H'.Sublist H) (h : WL P E N ops Q m H' l) : WL P E N ops Q m H l := fun a w hF hI => h a w hF (hI.sub hs)

section
variable {ty : TypeId} {pos : String} {af : Array Edge} {g : Option (Nat × Bool)} {d : Nat}
theorem WL.move {x : Operand} (v : Value) (hw : Wd ops m g = some true) (hd : d < N) (hx : ev m x = some v) (h : WL P E N ops Q ((d, v) :: m) H rest) : WL P E N ops Q m H (⟨some d, .move x, ty, pos, af, g⟩ :: rest) :=
  WL.val v hw hd (fun a w hF hI => by show Result.ok (Next.value (a.eval x)) w = _; rw [hF.eval hx]) h
theorem WL.assign {x : Operand} (v : Value) (hw : Wd ops m g = some true) (hd : d < N) (hx : ev m x = some v) (h : WL P E N ops Q ((d, v) :: m) H rest) : WL P E N ops Q m H (⟨some d, .assign x, ty, pos, af, g⟩ :: rest) :=
  WL.val v hw hd (fun a w hF hI => by show Result.ok (Next.value (a.eval x)) w = _; rw [hF.eval hx]) h
theorem WL.pick {c x y : Operand} (b : Bool) (v : Value) (hw : Wd ops m g = some true) (hd : d < N) (hc : ev m c = some (.bool b)) (hx : (bif b then ev m x else ev m y) = some v) (h : WL P E N ops Q ((d, v) :: m) H rest) : WL P E N ops Q m H (⟨some d, .pick c x y, ty, pos, af, g⟩ :: rest) :=
  WL.val v hw hd (fun a w hF hI => by
    simp only [execOp, hF.eval hc]
    cases b
    · simp at hx; simp [asBool, hF.eval hx]
    · simp at hx; simp [asBool, hF.eval hx]) h
theorem WL.un {op : UnOp} {t : TypeId} {x : Operand} (u v : Value) (hw : Wd ops m g = some true) (hd : d < N) (hx : ev m x = some u) (hr : ∀ w, (Op.unary op u).run P w = .ok v w) (h : WL P E N ops Q ((d, v) :: m) H rest) : WL P E N ops Q m H (⟨some d, .unOp op t x, ty, pos, af, g⟩ :: rest) :=
  WL.val v hw hd (fun a w hF hI => by simp only [execOp, hF.eval hx]; simp [hr w]) h
theorem WL.bin {op : BinOp} {t t2 : TypeId} {x y : Operand} (vx vy v : Value) (hw : Wd ops m g = some true) (hd : d < N) (hx : ev m x = some vx) (hy : ev m y = some vy)
    (hr : ∀ w, (do eqGuard op t x y vx vy; binOp op t vx vy : Sem Value).run P w = .ok v w) (h : WL P E N ops Q ((d, v) :: m) H rest) : WL P E N ops Q m H (⟨some d, .binOp op t x y t2, ty, pos, af, g⟩ :: rest) :=
  WL.val v hw hd (fun a w hF hI => by simp only [execOp, hF.eval hx, hF.eval hy]; have := hr w; simp only [Sem.run_bind] at this ⊢; rw [this]; rfl) h
theorem WL.conv {s t : TypeId} {x : Operand} (u v : Value) (hw : Wd ops m g = some true) (hd : d < N) (hx : ev m x = some u) (hr : ∀ w, (convert s t u).run P w = .ok v w) (h : WL P E N ops Q ((d, v) :: m) H rest) : WL P E N ops Q m H (⟨some d, .convert s t x, ty, pos, af, g⟩ :: rest) :=
  WL.val v hw hd (fun a w hF hI => by simp only [execOp, hF.eval hx]; simp [hr w]) h
theorem WL.nilc {x : Operand} (ad : Addr) (hw : Wd ops m g = some true) (hd : d < N) (hx : ev m x = some (.pointer (some ad))) (h : WL P E N ops Q ((d, .pointer (some ad)) :: m) H rest) : WL P E N ops Q m H (⟨some d, .nilCheck x, ty, pos, af, g⟩ :: rest) :=
  WL.val _ hw hd (fun a w hF hI => by simp [execOp, hF.eval hx]) h
theorem WL.faddr {s : TypeId} {x : Operand} {f : Nat} (u v : Value) (hw : Wd ops m g = some true) (hd : d < N) (hx : ev m x = some u) (hr : ∀ w, (Instr.fieldAt s u f).run P w = .ok v w) (h : WL P E N ops Q ((d, v) :: m) H rest) : WL P E N ops Q m H (⟨some d, .fieldAddr s x f, ty, pos, af, g⟩ :: rest) :=
  WL.val v hw hd (fun a w hF hI => by simp only [execOp, hF.eval hx]; simp [hr w]) h
theorem WL.field {s : TypeId} {x : Operand} {f : Nat} (u v : Value) (hw : Wd ops m g = some true) (hd : d < N) (hx : ev m x = some u) (hr : ∀ w, (Instr.field s u f).run P w = .ok v w) (h : WL P E N ops Q ((d, v) :: m) H rest) : WL P E N ops Q m H (⟨some d, .field s x f, ty, pos, af, g⟩ :: rest) :=
  WL.val v hw hd (fun a w hF hI => by simp only [execOp, hF.eval hx]; simp [hr w]) h
theorem WL.extract {x : Operand} {f : Nat} (u v : Value) (hw : Wd ops m g = some true) (hd : d < N) (hx : ev m x = some u) (hr : ∀ w, (Instr.extract u f).run P w = .ok v w) (h : WL P E N ops Q ((d, v) :: m) H rest) : WL P E N ops Q m H (⟨some d, .extract x f, ty, pos, af, g⟩ :: rest) :=
  WL.val v hw hd (fun a w hF hI => by simp only [execOp, hF.eval hx]; simp [hr w]) h
theorem WL.slice {t : TypeId} {x : Operand} {lo hi mx : Option Operand} (u v : Value) (lv hv mv : Option Value) (hw : Wd ops m g = some true) (hd : d < N) (hx : ev m x = some u) (hl : lo.map (ev m) = lv.map some) (hh : hi.map (ev m) = hv.map some) (hm : mx.map (ev m) = mv.map some)
    (hr : ∀ w, I E H w → (Instr.sliceAt t u lv hv mv).run P w = .ok v w) (h : WL P E N ops Q ((d, v) :: m) H rest) : WL P E N ops Q m H (⟨some d, .slice t x lo hi mx, ty, pos, af, g⟩ :: rest) :=
  WL.val v hw hd (fun a w hF hI => by
    have key : ∀ (q : Option Operand) (qv : Option Value), q.map (ev m) = qv.map some → q.map a.eval = qv := fun q qv hq => by
      cases q with
      | none => cases qv with
        | none => rfl
        | some _ => simp at hq
      | some z => cases qv with
        | none => simp at hq
        | some zv => simp at hq; simp [hF.eval hq]
    simp only [execOp, hF.eval hx, key lo lv hl, key hi hv hh, key mx mv hm]; simp [hr w hI]) h
theorem WL.mkfun {f : Fn} (hw : Wd ops m g = some true) (hd : d < N) {fs cs : Array Operand} (vf vc : Array Value) (hf : fs.toList.map (ev m) = vf.toList.map some) (hc : cs.toList.map (ev m) = vc.toList.map some)
    (h : WL P E N ops Q ((d, .func f vf vc) :: m) H rest) : WL P E N ops Q m H (⟨some d, .makeFunc f fs cs, ty, pos, af, g⟩ :: rest) :=
  WL.val _ hw hd (fun a w hF hI => by
    have key : ∀ (l : List Operand) (v : List Value), l.map (ev m) = v.map some → l.map a.eval = v := by
      intro l
      induction l with
      | nil => intro v hv; cases v with
        | nil => rfl
        | cons _ _ => simp at hv
      | cons x r ih => intro v hv; cases v with
        | nil => simp at hv
        | cons y s => simp only [List.map_cons, List.cons.injEq] at hv; simp only [List.map_cons, hF.eval hv.1, ih s hv.2]
    have e1 : fs.map a.eval = vf := by rw [← Array.toList_inj, Array.toList_map]; exact key _ _ hf
    have e2 : cs.map a.eval = vc := by rw [← Array.toList_inj, Array.toList_map]; exact key _ _ hc
    simp only [execOp, e1, e2]; rfl) h

/-! #### memory -/
theorem cell_blk {w : World} {i : Nat} {gb : Nat} {cs : List Value} {t : TypeId} (hI : I E H w) (hi : H[i]? = some (.blk gb cs t)) {j : Nat} {u : Value} (hj : cs[j]? = some u) : w.cell? ⟨gb, j, none⟩ = some u := by
  have := hI.ok _ (List.mem_of_getElem? hi)
  simp only [Ck.ok] at this
  simp [World.cell?, this, hj]
theorem frozen_blk {w : World} {i : Nat} {gb : Nat} {cs : List Value} {t : TypeId} (hI : I E H w) (hi : H[i]? = some (.blk gb cs t)) (j : Nat) : w.frozen? ⟨gb, j, none⟩ = false := by
  have := hI.ok _ (List.mem_of_getElem? hi)
  simp only [Ck.ok] at this
  simp only [World.frozen?, this]
  simp

theorem add_at (gb j k : Nat) : (⟨gb, j, none⟩ : Addr).add k = ⟨gb, j + k, none⟩ := by unfold Addr.add; split <;> simp_all
theorem cells_blk {w : World} {i : Nat} {gb : Nat} {cs : List Value} {t : TypeId} (hI : I E H w) (hi : H[i]? = some (.blk gb cs t)) {j n : Nat} {vs : List Value} (hj : (cs.drop j).take n = vs) : ∀ k u, vs[k]? = some u → w.cell? ((⟨gb, j, none⟩ : Addr).add k) = some u := by
  intro k u hk
  have : cs[j + k]? = some u := by
    rw [← hj, List.getElem?_take] at hk
    split at hk
    · rw [List.getElem?_drop] at hk; exact hk
    · cases hk
  rw [add_at]; exact cell_blk hI hi this

/-- A load of one cell. -/
theorem WL.load1 {t : TypeId} {x : Operand} (ad : Addr) (v : Value) (hw : Wd ops m g = some true) (hd : d < N) (hx : ev m x = some (.pointer (some ad)))
    (ha : ∀ w, (isAgg t).run P w = .ok false w) (hl : ∀ w, I E H w → w.cell? ad = some v) (h : WL P E N ops Q ((d, v) :: m) H rest) : WL P E N ops Q m H (⟨some d, .load t x, ty, pos, af, g⟩ :: rest) :=
  WL.val v hw hd (fun a w hF hI => by
    have hc := hl w hI
    simp only [execOp, hF.eval hx, Instr.loadAt, Instr.sureAddr, loadVar]
    simp [ha w, load, Sem.run, hc]) h
theorem loadCells_list {w : World} {ad : Addr} : ∀ (l : List Value) (i : Nat) (acc : Array Value), (∀ j u, l[j]? = some u → w.cell? (ad.add (i + j)) = some u) → (loadCellsFrom ad i l.length acc).run P w = .ok (acc ++ l.toArray) w := by
  intro l
  induction l with
  | nil => intro i acc h; simp [loadCellsFrom]
  | cons u r ih =>
    intro i acc h
    have h0 := h 0 u rfl
    simp only [List.length_cons, loadCellsFrom]
    have h1 := ih (i + 1) (acc.push u) (fun j u hj => by have := h (j + 1) u (by simpa using hj); rw [show i + 1 + j = i + (j + 1) by omega]; exact this)
    simp only [Nat.add_zero] at h0
    simp [load, Sem.run, h0, h1]
/-- A load of a whole struct. -/
theorem WL.loadN {t : TypeId} {x : Operand} (ad : Addr) (n : Nat) (vs : List Value) (hw : Wd ops m g = some true) (hd : d < N) (hx : ev m x = some (.pointer (some ad)))
    (ha : ∀ w, (isAgg t).run P w = .ok true w) (hs : ∀ w, (sizeOf t).run P w = .ok n w) (hn : vs.length = n) (hl : ∀ w, I E H w → ∀ j u, vs[j]? = some u → w.cell? (ad.add j) = some u)
    (h : WL P E N ops Q ((d, .agg vs.toArray) :: m) H rest) : WL P E N ops Q m H (⟨some d, .load t x, ty, pos, af, g⟩ :: rest) :=
  WL.val _ hw hd (fun a w hF hI => by
    have hl := loadCells_list (P := P) (w := w) (ad := ad) vs 0 #[] (fun k u hk => by simpa using hl w hI k u hk)
    rw [hn] at hl
    simp only [execOp, hF.eval hx, Instr.loadAt, Instr.sureAddr, loadVar]
    simp [ha w, hs w, loadCells, hl]) h
theorem WL.load {t : TypeId} {x : Operand} (i : Nat) (gb j : Nat) (cs : List Value) (tb : TypeId) (v : Value) (hw : Wd ops m g = some true) (hd : d < N) (hx : ev m x = some (.pointer (some ⟨gb, j, none⟩)))
    (ha : ∀ w, (isAgg t).run P w = .ok false w) (hi : H[i]? = some (.blk gb cs tb)) (hj : cs[j]? = some v) (h : WL P E N ops Q ((d, v) :: m) H rest) : WL P E N ops Q m H (⟨some d, .load t x, ty, pos, af, g⟩ :: rest) :=
  WL.load1 ⟨gb, j, none⟩ v hw hd hx ha (fun w hI => cell_blk hI hi hj) h
theorem WL.loadA {t : TypeId} {x : Operand} (i : Nat) (gb j n : Nat) (cs vs : List Value) (tb : TypeId) (hw : Wd ops m g = some true) (hd : d < N) (hx : ev m x = some (.pointer (some ⟨gb, j, none⟩)))
    (ha : ∀ w, (isAgg t).run P w = .ok true w) (hs : ∀ w, (sizeOf t).run P w = .ok n w) (hi : H[i]? = some (.blk gb cs tb)) (hj : (cs.drop j).take n = vs) (hn : vs.length = n)
    (h : WL P E N ops Q ((d, .agg vs.toArray) :: m) H rest) : WL P E N ops Q m H (⟨some d, .load t x, ty, pos, af, g⟩ :: rest) :=
  WL.loadN ⟨gb, j, none⟩ n vs hw hd hx ha hs hn (fun w hI => cells_blk hI hi hj) h

/-- A store into a block: one cell, or a whole struct. -/
def putc (cs : List Value) (j : Nat) (vs : List Value) : List Value := cs.take j ++ vs ++ cs.drop (j + vs.length)
theorem grownBy_setRow (w : World) (gb : Nat) (cs : Array Value) : w.grownBy (w.setRow gb cs) (some gb) :=
  ⟨rfl, rfl, rfl, by simp [World.setRow], fun k _ hk => by
    simp only [World.setRow, Array.getElem?_modify]
    rw [if_neg (by rintro rfl; exact hk rfl)]⟩
theorem run_store_op {t : TypeId} {x y : Operand} (i : Nat) (gb j : Nat) (cs vs cs' : List Value) (tb : TypeId) (v : Value) (hx : ev m x = some (.pointer (some ⟨gb, j, none⟩))) (hy : ev m y = some v)
    (hi : H[i]? = some (.blk gb cs tb)) (hv : v.cells.toList = vs) (hs : ∀ w, (sizeOf t).run P w = .ok vs.length w) (h1 : vs.all (·.oneCell') = true) (hj : Nat.ble (j + vs.length) cs.length = true) (hp : putc cs j vs = cs') :
    ∀ a w, Fr N m a → I E H w → (execOp a.eval ⟨none, .store t x y, ty, pos, af, g⟩).run P w = .ok .skip (w.setRow gb cs'.toArray) ∧ I E (H.set i (.blk gb cs' tb)) (w.setRow gb cs'.toArray) := by
  intro a w hF hI
  have hb : w.heap[gb]? = some (.cells cs.toArray tb (0, 0)) := hI.ok _ (List.mem_of_getElem? hi)
  have hst := run_storeCells_at (P := P) gb j tb vs 0 cs.toArray w hb (by simpa using Nat.le_of_ble_eq_true hj) (fun u hu => List.all_eq_true.1 h1 u hu)
  simp only [Nat.add_zero] at hst
  have hsz : v.cells.size = vs.length := by rw [← hv]; simp
  refine ⟨?_, hI.change hi (grownBy_setRow w gb _) (setRow_heap w gb cs.toArray _ tb _ hb) (fun k hk => .inl hk)⟩
  simp only [execOp, hF.eval hx, hF.eval hy, Instr.storeAt, Instr.sureAddr, storeVar]
  simp only [putc] at hp
  simp [hs w, hsz, hv, hst, hp]
theorem WL.store {t : TypeId} {x y : Operand} (i : Nat) (gb j : Nat) (cs vs cs' : List Value) (tb : TypeId) (v : Value) (hw : Wd ops m g = some true) (hx : ev m x = some (.pointer (some ⟨gb, j, none⟩))) (hy : ev m y = some v)
    (hi : H[i]? = some (.blk gb cs tb)) (hv : v.cells.toList = vs) (hs : ∀ w, (sizeOf t).run P w = .ok vs.length w) (h1 : vs.all (·.oneCell') = true) (hj : Nat.ble (j + vs.length) cs.length = true) (hp : putc cs j vs = cs')
    (h : WL P E N ops Q m (H.set i (.blk gb cs' tb)) rest) : WL P E N ops Q m H (⟨none, .store t x y, ty, pos, af, g⟩ :: rest) := by
  intro a w hF hI
  refine wpList_on (Wd.spec hF hw) ?_
  obtain ⟨hrun, hI'⟩ := run_store_op (ty := ty) (pos := pos) (af := af) (g := g) i gb j cs vs cs' tb v hx hy hi hv hs h1 hj hp a w hF hI
  unfold Oper.wp
  rw [hrun, Oper.upon_skip]
  exact h _ _ hF hI'

/-! #### new memory -/
theorem heap_push (w : World) (o : Obj) : (w.alloc o).heap[w.heap.size]? = some o := by show (w.heap.push o)[w.heap.size]? = some o; simp
theorem WL.new {op : Op} (cs : List Value) (t : TypeId) (hw : Wd ops m g = some true) (hd : d < N)
    (hrun : ∀ a w, Fr N m a → I E H w → (execOp a.eval ⟨some d, op, ty, pos, af, g⟩).run P w = .ok (.value (.pointer (some ⟨w.heap.size, 0, none⟩))) (w.alloc (.cells cs.toArray t (0, 0))))
    (h : ∀ gb, WL P E N ops Q ((d, .pointer (some ⟨gb, 0, none⟩)) :: m) (.blk gb cs t :: H) rest) : WL P E N ops Q m H (⟨some d, op, ty, pos, af, g⟩ :: rest) :=
  WL.gen (fun v H' => ∃ gb, v = .pointer (some ⟨gb, 0, none⟩) ∧ H' = .blk gb cs t :: H) hw hd
    (fun a w hF hI => ⟨_, _, _, hrun a w hF hI, ⟨_, rfl, rfl⟩, hI.add (World.grownBy_alloc w _ none) (heap_push w _) (fun k hk => by simp only [Ck.fp, Option.some.injEq] at hk; omega)⟩)
    (fun v H' hC => by obtain ⟨gb, rfl, rfl⟩ := hC; exact h gb)
theorem WL.alloc {t : TypeId} (z : Value) (cs : List Value) (hw : Wd ops m g = some true) (hd : d < N) (hz : ∀ w, (zeroValue t).run P w = .ok z w) (hc : z.cells.toList = cs)
    (h : ∀ gb, WL P E N ops Q ((d, .pointer (some ⟨gb, 0, none⟩)) :: m) (.blk gb cs t :: H) rest) : WL P E N ops Q m H (⟨some d, .alloc t, ty, pos, af, g⟩ :: rest) :=
  WL.new cs t hw hd (fun a w hF hI => by
    subst hc
    simp only [execOp, Instr.alloc]
    simp [hz w, newVar, newRow, newObj, Sem.run]) h
theorem WL.box {t : TypeId} {x : Operand} (v : Value) (cs : List Value) (hw : Wd ops m g = some true) (hd : d < N) (hx : ev m x = some v) (hc : v.cells.toList = cs)
    (h : ∀ gb, WL P E N ops Q ((d, .pointer (some ⟨gb, 0, none⟩)) :: m) (.blk gb cs t :: H) rest) : WL P E N ops Q m H (⟨some d, .box t x, ty, pos, af, g⟩ :: rest) :=
  WL.new cs t hw hd (fun a w hF hI => by
    subst hc
    simp only [execOp, hF.eval hx, Instr.box]
    simp [newVar, newRow, newObj, Sem.run]) h

/-! #### rows -/
/-- What a slice reads as. -/
structure Rds (w : World) (A : Option Addr) (n s : Nat) (xs : List Value) : Prop where
  len : xs.length = n * s
  nil : A = none → n = 0
  at_ : ∀ ad, A = some ad → ∀ j u, xs[j]? = some u → w.cell? (ad.add j) = some u
theorem own_form {w : World} {e s n : Nat} {v : Value} {xs : List Value} (h : w.ownsRow 0 e s v n xs) : ∃ A c, v = .slice A n c ∧ n ≤ c ∧ Rds w A n s xs := by
  obtain ⟨h1, h2⟩ := h
  rcases h2 with ⟨rfl, rfl⟩ | ⟨gb, cap, cur, rfl, _, hg, hnc, _, hcs, ht⟩
  · exact ⟨none, 0, rfl, Nat.le_refl _, h1, (fun _ => rfl), (fun ad h => by cases h)⟩
  · refine ⟨_, cap, rfl, hnc, h1, (fun h => by cases h), fun ad had j u hu => ?_⟩
    cases had
    rw [add_at, Nat.zero_add]
    rw [← ht, List.getElem?_take] at hu
    split at hu
    · simp only [World.cell?, hg]; simpa using hu
    · cases hu
theorem row_reads {w : World} {i e s n : Nat} {A : Option Addr} {c : Nat} {xs : List Value} (hI : I E H w) (hi : H[i]? = some (.row (.slice A n c) e s n xs)) : n ≤ c ∧ Rds w A n s xs := by
  obtain ⟨A', c', he, h1, h2⟩ := own_form (hI.ok _ (List.mem_of_getElem? hi))
  cases he
  exact ⟨h1, h2⟩
theorem WL.idx {t : TypeId} {x y : Operand} (e s n c : Nat) (k : IntKind) (A : Option Addr) (j : Int) (hw : Wd ops m g = some true) (hd : d < N) (hx : ev m x = some (.slice A n c)) (hy : ev m y = some (.int k j))
    (ht : P.underlying t = some (.slice e)) (hs : ∀ w, (sizeOf e).run P w = .ok s w) (h0 : 0 ≤ j) (h1 : j < n) (hA : ∀ w, I E H w → A = none → n = 0)
    (h : ∀ ad, A = some ad → WL P E N ops Q ((d, .pointer (some (ad.add (j.toNat * s)))) :: m) H rest) : WL P E N ops Q m H (⟨some d, .indexAddr t x y, ty, pos, af, g⟩ :: rest) := by
  intro a w hF hI
  cases A with
  | none => have := hA w hI rfl; omega
  | some ad =>
    refine WL.val _ hw hd (fun a w hF hI => ?_) (h ad rfl) a w hF hI
    simp only [execOp, hF.eval hx, hF.eval hy, Instr.indexAt]
    simp [asIntOf, run_underlying ht, hs w, h0, h1]
theorem parts_eval {a : Act} (hF : Fr N m a) : ∀ (l : List (Nat × Operand)) (v : List (Nat × Value)), l.map (fun p => (p.1, ev m p.2)) = v.map (fun p => (p.1, some p.2)) → l.map (fun (i, x) => (i, a.eval x)) = v := by
  intro l
  induction l with
  | nil => intro v hv; cases v with
    | nil => rfl
    | cons _ _ => simp at hv
  | cons x r ih => intro v hv; cases v with
    | nil => simp at hv
    | cons y s =>
      simp only [List.map_cons, List.cons.injEq, Prod.mk.injEq] at hv
      simp only [List.map_cons, ih s hv.2, hF.eval hv.1.2, hv.1.1]
theorem run_buildS {t : TypeId} {ps : List (Nat × Operand)} (len e s : Nat) (vs : List (Nat × Value)) (cs : List Value) (hl : cs.length = len * s) (hmax : Nat.ble len 1000 = true)
    (hps : ps.map (fun p => (p.1, ev m p.2)) = vs.map (fun p => (p.1, some p.2)))
    (hrun : ∀ w, (Instr.buildSlice t len vs.toArray).run P w = .ok (.slice (some ⟨w.heap.size, 0, none⟩) len len) (w.alloc (.cells cs.toArray e (0, 0)))) :
    ∀ a w, Fr N m a → I E H w → ∃ v w' H', (execOp a.eval ⟨some d, .buildSlice t len ps.toArray, ty, pos, af, g⟩).run P w = .ok (.value v) w' ∧ (∃ gb, v = .slice (some ⟨gb, 0, none⟩) len len ∧ H' = .row (.slice (some ⟨gb, 0, none⟩) len len) e s len cs :: H) ∧ I E H' w' :=
  fun a w hF hI => ⟨_, _, _, by simp only [execOp, List.map_toArray, parts_eval hF _ _ hps]; simp [hrun w], ⟨_, rfl, rfl⟩, hI.add (World.grownBy_alloc w _ none)
      ⟨hl, .inr ⟨w.heap.size, len, cs.toArray, rfl, Nat.zero_le _, heap_push w _, Nat.le_refl _, by have := Nat.le_of_ble_eq_true hmax; simp only [maxLen]; omega, by simpa using hl, by rw [← hl]; simp⟩⟩ (fun k hk => by simp only [Ck.fp, Value.ownBlock, Option.some.injEq] at hk; omega)⟩
/-- A literal of a slice: a row of its own. -/
theorem WL.buildS {t : TypeId} {ps : List (Nat × Operand)} (len e s : Nat) (vs : List (Nat × Value)) (cs : List Value) (hw : Wd ops m g = some true) (hd : d < N) (hl : cs.length = len * s) (hmax : Nat.ble len 1000 = true)
    (hps : ps.map (fun p => (p.1, ev m p.2)) = vs.map (fun p => (p.1, some p.2)))
    (hrun : ∀ w, (Instr.buildSlice t len vs.toArray).run P w = .ok (.slice (some ⟨w.heap.size, 0, none⟩) len len) (w.alloc (.cells cs.toArray e (0, 0))))
    (h : ∀ gb, WL P E N ops Q ((d, .slice (some ⟨gb, 0, none⟩) len len) :: m) (.row (.slice (some ⟨gb, 0, none⟩) len len) e s len cs :: H) rest) : WL P E N ops Q m H (⟨some d, .buildSlice t len ps.toArray, ty, pos, af, g⟩ :: rest) :=
  WL.gen (fun v H' => ∃ gb, v = .slice (some ⟨gb, 0, none⟩) len len ∧ H' = .row (.slice (some ⟨gb, 0, none⟩) len len) e s len cs :: H) hw hd (run_buildS len e s vs cs hl hmax hps hrun)
    (fun v H' hC => by obtain ⟨gb, rfl, rfl⟩ := hC; exact h gb)
theorem WL.len {t : TypeId} {x : Operand} (A : Option Addr) (n c e : Nat) (ht : P.underlying t = some (.slice e)) (hw : Wd ops m g = some true) (hd : d < N) (hx : ev m x = some (.slice A n c))
    (h : WL P E N ops Q ((d, .int .i64 n) :: m) H rest) : WL P E N ops Q m H (⟨some d, .call { callee := .builtin .len, args := #[x], argTypes := #[t] }, ty, pos, af, g⟩ :: rest) :=
  WL.val _ hw hd (fun a w hF hI => by
    simp only [execOp, resolve, invoke, List.map_toArray, List.map_cons, List.map_nil, hF.eval hx]
    simp [builtin, Builtin.len_, run_underlying ht, goInt]) h

theorem run_append_any {w : World} (t ty e : TypeId) (i : TypeInfo) (z : Value) (s bytes : Nat) (ht : P.underlying t = some (.slice e)) (hi : P.info? e = some i) (hz : i.zero = some z) (hsize : i.size = s) (hby : i.bytes = bytes) (hzs : z.cells.size = s) (hsz : 0 < s)
    (v : Value) (n : Nat) (xs : List Value) (hown : w.ownsRow 0 e s v n xs) (B : Option Addr) (k c : Nat) (hc : k ≤ c) (news : List Value) (hr : Rds w B k s news) (h1 : ∀ u ∈ news, u.oneCell' = true) (h63 : n + k ≤ maxLen) (hbytes : (n + k) * bytes ≤ 140737488355328) :
    ∃ v' w', (Builtin.append_ #[t, t] ty #[v, .slice B k c]).run P w = .ok v' w' ∧ w'.ownsRow 0 e s v' (n + k) (xs ++ news) ∧ w.grownBy w' v.ownBlock ∧ (v'.ownBlock = v.ownBlock ∨ v'.ownBlock = some w.heap.size) := by
  cases B with
  | some ad =>
    obtain ⟨v', w', r1, r2, r3, _, r5⟩ := run_append_own_at (P := P) w 0 t ty e i z s bytes ht hi hz hsize hby hzs hsz v n xs hown ad k c news hr.len (hr.at_ ad rfl) h1 h63 hbytes (Nat.zero_le _)
    exact ⟨v', w', r1, r2, r3, r5⟩
  | none =>
    obtain rfl := hr.nil rfl
    have hn : news = [] := List.eq_nil_of_length_eq_zero (by rw [hr.len]; omega)
    subst hn
    obtain ⟨A, cA, rfl, hA, _⟩ := own_form hown
    refine ⟨.slice A n cA, w, ?_, by simpa using hown, World.grownBy.refl _ _, .inl rfl⟩
    have := Src.ofNil (P := P) w (size := i.size) (tx := t) (e' := e) ht c
    exact run_append_nothing w t t ty e i ht hi A n cA hA _ this
theorem run_append_op {t : TypeId} {x y : Operand} (i : Nat) (e s bytes n k c : Nat) (z v : Value) (B : Option Addr) (xs news : List Value) (hx : ev m x = some v) (hy : ev m y = some (.slice B k c))
    (ht : P.underlying t = some (.slice e)) (hinfo : (P.info? e).map (fun i => (i.zero, i.size, i.bytes)) = some (some z, s, bytes)) (hzs : z.cells.size = s) (hsz : 0 < s)
    (hi : H[i]? = some (.row v e s n xs)) (hr : ∀ w, I E H w → k ≤ c ∧ Rds w B k s news) (h1 : ∀ u ∈ news, u.oneCell' = true) (h63 : n + k ≤ 140737488355328) (hbytes : (n + k) * bytes ≤ 140737488355328) :
    ∀ a w, Fr N m a → I E H w → ∃ v' w' H', (execOp a.eval ⟨some d, .call { callee := .builtin .append, args := #[x, y], argTypes := #[t, t] }, ty, pos, af, g⟩).run P w = .ok (.value v') w' ∧ (∃ A' c', v' = .slice A' (n + k) c' ∧ H' = H.set i (.row (.slice A' (n + k) c') e s (n + k) (xs ++ news))) ∧ I E H' w' := by
  obtain ⟨i0, hi0, hzz⟩ := Option.map_eq_some_iff.1 hinfo
  simp only [Prod.mk.injEq] at hzz
  obtain ⟨hz0, hz1, hz2⟩ := hzz
  intro a w hF hI
  obtain ⟨hkc, hR⟩ := hr w hI
  have hown := hI.ok _ (List.mem_of_getElem? hi)
  obtain ⟨v', w', r1, r2, r3, r4⟩ := run_append_any (P := P) t ty e i0 z s bytes ht hi0 hz0 hz1 hz2 hzs hsz v n xs hown B k c hkc news hR h1 (by simp only [maxLen]; omega) hbytes
  obtain ⟨A', c', rfl, _, _⟩ := own_form r2
  refine ⟨_, w', _, ?_, ⟨A', c', rfl, rfl⟩, hI.change hi r3 r2 (fun q hq => ?_)⟩
  · simp only [execOp, resolve, invoke, List.map_toArray, List.map_cons, List.map_nil, hF.eval hx, hF.eval hy]
    simp [builtin, r1]
  · rcases r4 with r4 | r4
    · exact .inl (show v.ownBlock = some q from r4 ▸ hq)
    · have hq' : Value.ownBlock (.slice A' (n + k) c') = some q := hq
      rw [r4] at hq'; exact .inr (by simp at hq'; omega)
theorem WL.append {t : TypeId} {x y : Operand} (i : Nat) (e s bytes n k c : Nat) (z v : Value) (B : Option Addr) (xs news : List Value) (hw : Wd ops m g = some true) (hd : d < N) (hx : ev m x = some v) (hy : ev m y = some (.slice B k c))
    (ht : P.underlying t = some (.slice e)) (hinfo : (P.info? e).map (fun i => (i.zero, i.size, i.bytes)) = some (some z, s, bytes)) (hzs : z.cells.size = s) (hsz : 0 < s)
    (hi : H[i]? = some (.row v e s n xs)) (hr : ∀ w, I E H w → k ≤ c ∧ Rds w B k s news) (h1 : ∀ u ∈ news, u.oneCell' = true) (h63 : n + k ≤ 140737488355328) (hbytes : (n + k) * bytes ≤ 140737488355328)
    (h : ∀ A' c', WL P E N ops Q ((d, .slice A' (n + k) c') :: m) (H.set i (.row (.slice A' (n + k) c') e s (n + k) (xs ++ news))) rest) :
    WL P E N ops Q m H (⟨some d, .call { callee := .builtin .append, args := #[x, y], argTypes := #[t, t] }, ty, pos, af, g⟩ :: rest) :=
  WL.gen (fun v' H' => ∃ A' c', v' = .slice A' (n + k) c' ∧ H' = H.set i (.row (.slice A' (n + k) c') e s (n + k) (xs ++ news))) hw hd (run_append_op i e s bytes n k c z v B xs news hx hy ht hinfo hzs hsz hi hr h1 h63 hbytes) (fun v' H' hC => by obtain ⟨A', c', rfl, rfl⟩ := hC; exact h A' c')

/-! #### calls -/
theorem run_call {w : World} {a : Act} {f : FuncId} {fn : Func} {x : Operand} {first cap args : Array Value} {as : Array Operand} {ts : Array TypeId} {dst : Option Nat} (hf : P.funcs[f]? = some fn) (hname : (fn.name == "runtime.NumGoroutine") = false) (hb : fn.body.isSome = true)
    (hx : a.eval x = .func (.func f) first cap) (hargs : first ++ as.map a.eval ++ cap = args) :
    (execOp a.eval ⟨dst, .call { callee := .value x, args := as, argTypes := ts }, ty, pos, af, g⟩).run P w = .ok (.enter f args) w := by
  have h1 : fn.name ≠ "runtime.NumGoroutine" := by simpa using hname
  obtain ⟨c, hc⟩ := Option.isSome_iff_exists.1 hb
  have he : (callFunc f args).run P w = .ok (.enter f args) w := by simp [callFunc, hf, h1, hc]
  simp only [execOp, resolve, hx, Deferred.ofValue]
  simp [invoke, hargs, he]
theorem evals {a : Act} (hF : Fr N m a) : ∀ (l : List Operand) (v : List Value), l.map (ev m) = v.map some → l.map a.eval = v := by
  intro l
  induction l with
  | nil => intro v hv; cases v with
    | nil => rfl
    | cons _ _ => simp at hv
  | cons x r ih => intro v hv; cases v with
    | nil => simp at hv
    | cons y s => simp only [List.map_cons, List.cons.injEq] at hv; simp only [List.map_cons, hF.eval hv.1, ih s hv.2]
/-- A call, by its contract: H1 is what it is given, Hf what it does not see. -/
theorem WL.call {x : Operand} {ts : Array TypeId} {as : List Operand} {f : FuncId} {fn : Func} (first cap vs : List Value) (args : Array Value) (H1 Hf : List Ck) {R : World → Prop} {C : Value → List Ck → Prop} (hc : Con P f args H1 R C)
    (hw : Wd ops m g = some true) (hd : d < N) (hx : ev m x = some (.func (.func f) first.toArray cap.toArray)) (hf : P.funcs[f]? = some fn) (hname : (fn.name == "runtime.NumGoroutine") = false) (hb : fn.body.isSome = true)
    (has : as.map (ev m) = vs.map some) (hargs : (first ++ vs ++ cap).toArray = args) (hp : (H1 ++ Hf).Perm H) (hR : ∀ w, I E H w → R w)
    (h : ∀ v H1', C v H1' → WL P E N ops Q ((d, v) :: m) (H1' ++ Hf) rest) : WL P E N ops Q m H (⟨some d, .call { callee := .value x, args := as.toArray, argTypes := ts }, ty, pos, af, g⟩ :: rest) := by
  intro a w hF hI
  refine wpList_on (Wd.spec hF hw) ?_
  unfold Oper.wp
  rw [run_call (args := args) hf hname hb (hF.eval hx) (by rw [List.map_toArray, evals hF _ _ has, ← hargs]; simp), Oper.upon_enter]
  have hI2 := hI.perm hp
  have hpw := List.pairwise_append.1 hI2.dj
  refine (hc w (fun c hc => hI2.ok c (List.mem_append_left _ hc)) hpw.1 (hR w hI)).mono ?_
  rintro e w' ⟨v, H1', hC, rfl, hI'⟩
  exact h v H1' hC _ _ (hF.put hd v) (hI2.frame hI')
end
end
end Go.Proofs.Ytalafklnnohlgaa.X
