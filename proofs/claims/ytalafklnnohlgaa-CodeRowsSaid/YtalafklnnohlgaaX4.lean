/- The logic's rules for operations in a region whose order is drawn. No condition: every rule holds of every program. -/
import Derived.Test.YtalafklnnohlgaaX3
namespace Go.Proofs.Ytalafklnnohlgaa.X
open Go.RowKit Go.Proofs.YtalafklnnohlgaaW.PrintLast
set_option linter.unusedVariables false
set_option linter.unusedSimpArgs false
section
variable {P : Program} {E : Env} {N : Nat} {m : List (Nat × Value)} {H : List Ck} {Q : Exit → Act → World → Prop} {ops : Array Oper} {HS : List Ck} {ds : List Nat} {fuel : Nat} {l : Array Bool}
section
variable {ty : TypeId} {pos : String} {af : Array Edge} {g : Option (Nat × Bool)} {d : Nat}
theorem WA.move (i : Nat) (l' : Array Bool) {x : Operand} (v : Value)   (hx : ev m x = some v) (hi : ops[i]? = some ⟨some d, .move x, ty, pos, af, g⟩) (hw : Wd ops m g = some true) (hd : d < N) (hcb : anyB .any ops l l' i = true) (hQ : Qp Q) (h : WA P E N ops Q HS ds fuel l' ((d, v) :: m) H) : WA P E N ops Q HS ds (fuel + 1) l m H :=
  WA.val i l' _ hi hw hd hcb hQ (fun a w hF => by
    have hp : (execOp a.eval ⟨some d, .move x, ty, pos, af, g⟩).run P w = .ok (.value (v)) w := (by show Result.ok (Next.value (a.eval x)) w = _; rw [hF.eval hx])
    exact hp) h
theorem WA.assign (i : Nat) (l' : Array Bool) {x : Operand} (v : Value)   (hx : ev m x = some v) (hi : ops[i]? = some ⟨some d, .assign x, ty, pos, af, g⟩) (hw : Wd ops m g = some true) (hd : d < N) (hcb : anyB .any ops l l' i = true) (hQ : Qp Q) (h : WA P E N ops Q HS ds fuel l' ((d, v) :: m) H) : WA P E N ops Q HS ds (fuel + 1) l m H :=
  WA.val i l' _ hi hw hd hcb hQ (fun a w hF => by
    have hp : (execOp a.eval ⟨some d, .assign x, ty, pos, af, g⟩).run P w = .ok (.value (v)) w := (by show Result.ok (Next.value (a.eval x)) w = _; rw [hF.eval hx])
    exact hp) h
theorem WA.pick (i : Nat) (l' : Array Bool) {c x y : Operand} (b : Bool) (v : Value)   (hc : ev m c = some (.bool b)) (hx : (bif b then ev m x else ev m y) = some v) (hi : ops[i]? = some ⟨some d, .pick c x y, ty, pos, af, g⟩) (hw : Wd ops m g = some true) (hd : d < N) (hcb : anyB .any ops l l' i = true) (hQ : Qp Q) (h : WA P E N ops Q HS ds fuel l' ((d, v) :: m) H) : WA P E N ops Q HS ds (fuel + 1) l m H :=
  WA.val i l' _ hi hw hd hcb hQ (fun a w hF => by
    have hp : (execOp a.eval ⟨some d, .pick c x y, ty, pos, af, g⟩).run P w = .ok (.value (v)) w := (by
    simp only [execOp, hF.eval hc]
    cases b
    · simp at hx; simp [asBool, hF.eval hx]
    · simp at hx; simp [asBool, hF.eval hx])
    exact hp) h
theorem WA.un (i : Nat) (l' : Array Bool) {op : UnOp} {t : TypeId} {x : Operand} (u v : Value)   (hx : ev m x = some u) (hr : ∀ w, (Op.unary op u).run P w = .ok v w) (hi : ops[i]? = some ⟨some d, .unOp op t x, ty, pos, af, g⟩) (hw : Wd ops m g = some true) (hd : d < N) (hcb : anyB .any ops l l' i = true) (hQ : Qp Q) (h : WA P E N ops Q HS ds fuel l' ((d, v) :: m) H) : WA P E N ops Q HS ds (fuel + 1) l m H :=
  WA.val i l' _ hi hw hd hcb hQ (fun a w hF => by
    have hp : (execOp a.eval ⟨some d, .unOp op t x, ty, pos, af, g⟩).run P w = .ok (.value (v)) w := (by simp only [execOp, hF.eval hx]; simp [hr w])
    exact hp) h
theorem WA.bin (i : Nat) (l' : Array Bool) {op : BinOp} {t t2 : TypeId} {x y : Operand} (vx vy v : Value)   (hx : ev m x = some vx) (hy : ev m y = some vy)
    (hr : ∀ w, (do eqGuard op t x y vx vy; binOp op t vx vy : Sem Value).run P w = .ok v w) (hi : ops[i]? = some ⟨some d, .binOp op t x y t2, ty, pos, af, g⟩) (hw : Wd ops m g = some true) (hd : d < N) (hcb : anyB .any ops l l' i = true) (hQ : Qp Q) (h : WA P E N ops Q HS ds fuel l' ((d, v) :: m) H) : WA P E N ops Q HS ds (fuel + 1) l m H :=
  WA.val i l' _ hi hw hd hcb hQ (fun a w hF => by
    have hp : (execOp a.eval ⟨some d, .binOp op t x y t2, ty, pos, af, g⟩).run P w = .ok (.value (v)) w := (by simp only [execOp, hF.eval hx, hF.eval hy]; have := hr w; simp only [Sem.run_bind] at this ⊢; rw [this]; rfl)
    exact hp) h
theorem WA.conv (i : Nat) (l' : Array Bool) {s t : TypeId} {x : Operand} (u v : Value)   (hx : ev m x = some u) (hr : ∀ w, (convert s t u).run P w = .ok v w) (hi : ops[i]? = some ⟨some d, .convert s t x, ty, pos, af, g⟩) (hw : Wd ops m g = some true) (hd : d < N) (hcb : anyB .any ops l l' i = true) (hQ : Qp Q) (h : WA P E N ops Q HS ds fuel l' ((d, v) :: m) H) : WA P E N ops Q HS ds (fuel + 1) l m H :=
  WA.val i l' _ hi hw hd hcb hQ (fun a w hF => by
    have hp : (execOp a.eval ⟨some d, .convert s t x, ty, pos, af, g⟩).run P w = .ok (.value (v)) w := (by simp only [execOp, hF.eval hx]; simp [hr w])
    exact hp) h
theorem WA.nilc (i : Nat) (l' : Array Bool) {x : Operand} (ad : Addr)   (hx : ev m x = some (.pointer (some ad))) (hi : ops[i]? = some ⟨some d, .nilCheck x, ty, pos, af, g⟩) (hw : Wd ops m g = some true) (hd : d < N) (hcb : anyB .any ops l l' i = true) (hQ : Qp Q) (h : WA P E N ops Q HS ds fuel l' ((d, .pointer (some ad)) :: m) H) : WA P E N ops Q HS ds (fuel + 1) l m H :=
  WA.val i l' _ hi hw hd hcb hQ (fun a w hF => by
    have hp : (execOp a.eval ⟨some d, .nilCheck x, ty, pos, af, g⟩).run P w = .ok (.value (.pointer (some ad))) w := (by simp [execOp, hF.eval hx])
    exact hp) h
theorem WA.faddr (i : Nat) (l' : Array Bool) {s : TypeId} {x : Operand} {f : Nat} (u v : Value)   (hx : ev m x = some u) (hr : ∀ w, (Instr.fieldAt s u f).run P w = .ok v w) (hi : ops[i]? = some ⟨some d, .fieldAddr s x f, ty, pos, af, g⟩) (hw : Wd ops m g = some true) (hd : d < N) (hcb : anyB .any ops l l' i = true) (hQ : Qp Q) (h : WA P E N ops Q HS ds fuel l' ((d, v) :: m) H) : WA P E N ops Q HS ds (fuel + 1) l m H :=
  WA.val i l' _ hi hw hd hcb hQ (fun a w hF => by
    have hp : (execOp a.eval ⟨some d, .fieldAddr s x f, ty, pos, af, g⟩).run P w = .ok (.value (v)) w := (by simp only [execOp, hF.eval hx]; simp [hr w])
    exact hp) h
theorem WA.field (i : Nat) (l' : Array Bool) {s : TypeId} {x : Operand} {f : Nat} (u v : Value)   (hx : ev m x = some u) (hr : ∀ w, (Instr.field s u f).run P w = .ok v w) (hi : ops[i]? = some ⟨some d, .field s x f, ty, pos, af, g⟩) (hw : Wd ops m g = some true) (hd : d < N) (hcb : anyB .any ops l l' i = true) (hQ : Qp Q) (h : WA P E N ops Q HS ds fuel l' ((d, v) :: m) H) : WA P E N ops Q HS ds (fuel + 1) l m H :=
  WA.val i l' _ hi hw hd hcb hQ (fun a w hF => by
    have hp : (execOp a.eval ⟨some d, .field s x f, ty, pos, af, g⟩).run P w = .ok (.value (v)) w := (by simp only [execOp, hF.eval hx]; simp [hr w])
    exact hp) h
theorem WA.extract (i : Nat) (l' : Array Bool) {x : Operand} {f : Nat} (u v : Value)   (hx : ev m x = some u) (hr : ∀ w, (Instr.extract u f).run P w = .ok v w) (hi : ops[i]? = some ⟨some d, .extract x f, ty, pos, af, g⟩) (hw : Wd ops m g = some true) (hd : d < N) (hcb : anyB .any ops l l' i = true) (hQ : Qp Q) (h : WA P E N ops Q HS ds fuel l' ((d, v) :: m) H) : WA P E N ops Q HS ds (fuel + 1) l m H :=
  WA.val i l' _ hi hw hd hcb hQ (fun a w hF => by
    have hp : (execOp a.eval ⟨some d, .extract x f, ty, pos, af, g⟩).run P w = .ok (.value (v)) w := (by simp only [execOp, hF.eval hx]; simp [hr w])
    exact hp) h
theorem WA.mkfun (i : Nat) (l' : Array Bool) {f : Fn}   {fs cs : Array Operand} (vf vc : Array Value) (hf : fs.toList.map (ev m) = vf.toList.map some) (hc : cs.toList.map (ev m) = vc.toList.map some) (hi : ops[i]? = some ⟨some d, .makeFunc f fs cs, ty, pos, af, g⟩) (hw : Wd ops m g = some true) (hd : d < N) (hcb : anyB .any ops l l' i = true) (hQ : Qp Q) (h : WA P E N ops Q HS ds fuel l' ((d, .func f vf vc) :: m) H) : WA P E N ops Q HS ds (fuel + 1) l m H :=
  WA.val i l' _ hi hw hd hcb hQ (fun a w hF => by
    have hp : (execOp a.eval ⟨some d, .makeFunc f fs cs, ty, pos, af, g⟩).run P w = .ok (.value (.func f vf vc)) w := (by
    have key : ∀ (l : List Operand) (v : List Value), l.map (ev m) = v.map some → l.map a.eval = v := by
      intro l
      induction l with
      | nil => intro v hv; cases v with
        | nil => rfl
        | cons _ _ => simp at hv
      | cons x r ih => intro v hv; cases v with
        | nil => simp at hv
        | cons y s => simp only [List.map_cons, List.cons.injEq] at hv; simp only [List.map_cons, hF.eval hv.1, ih s hv.2]
    have e1 : fs.map a.eval = vf := by rw [← Array.toList_inj, Array.toList_map]; exact key _ _ hf
    have e2 : cs.map a.eval = vc := by rw [← Array.toList_inj, Array.toList_map]; exact key _ _ hc
    simp only [execOp, e1, e2]; rfl)
    exact hp) h
theorem WA.len (i : Nat) (l' : Array Bool) {t : TypeId} {x : Operand} (A : Option Addr) (n c e : Nat) (ht : P.underlying t = some (.slice e))   (hx : ev m x = some (.slice A n c)) (hi : ops[i]? = some ⟨some d, .call { callee := .builtin .len, args := #[x], argTypes := #[t] }, ty, pos, af, g⟩) (hw : Wd ops m g = some true) (hd : d < N) (hcb : anyB .any ops l l' i = true) (hQ : Qp Q) (h : WA P E N ops Q HS ds fuel l' ((d, .int .i64 n) :: m) H) : WA P E N ops Q HS ds (fuel + 1) l m H :=
  WA.val i l' _ hi hw hd hcb hQ (fun a w hF => by
    have hp : (execOp a.eval ⟨some d, .call { callee := .builtin .len, args := #[x], argTypes := #[t] }, ty, pos, af, g⟩).run P w = .ok (.value (.int .i64 n)) w := (by
    simp only [execOp, resolve, invoke, List.map_toArray, List.map_cons, List.map_nil, hF.eval hx]
    simp [builtin, Builtin.len_, run_underlying ht, goInt])
    exact hp) h
theorem WA.slice {t : TypeId} {x : Operand} {lo hi mx : Option Operand} (i : Nat) (l' : Array Bool) (u v : Value) (lv hv mv : Option Value) (hi0 : ops[i]? = some ⟨some d, .slice t x lo hi mx, ty, pos, af, g⟩) (hw : Wd ops m g = some true) (hd : d < N) (hcb : anyB .any ops l l' i = true) (hQ : Qp Q) (hx : ev m x = some u) (hl : lo.map (ev m) = lv.map some) (hh : hi.map (ev m) = hv.map some) (hm : mx.map (ev m) = mv.map some)
    (hr : ∀ w, (Instr.sliceAt t u lv hv mv).run P w = .ok v w) (h : WA P E N ops Q HS ds fuel l' ((d, v) :: m) H) : WA P E N ops Q HS ds (fuel + 1) l m H :=
  WA.val i l' _ hi0 hw hd hcb hQ (fun a w hF => by
    have key : ∀ (q : Option Operand) (qv : Option Value), q.map (ev m) = qv.map some → q.map a.eval = qv := fun q qv hq => by
      cases q with
      | none => cases qv with
        | none => rfl
        | some _ => simp at hq
      | some z => cases qv with
        | none => simp at hq
        | some zv => simp at hq; simp [hF.eval hq]
    simp only [execOp, hF.eval hx, key lo lv hl, key hi hv hh, key mx mv hm]; simp [hr w]) h
theorem WA.load1 {t : TypeId} {x : Operand} (i : Nat) (l' : Array Bool) (ad : Addr) (v : Value) (hi : ops[i]? = some ⟨some d, .load t x, ty, pos, af, g⟩) (hw : Wd ops m g = some true) (hd : d < N) (hs : HS.Sublist H) (hcb : takeB .any ops ds l l' i = true) (hQ : Qp Q) (hx : ev m x = some (.pointer (some ad)))
    (ha : ∀ w, (isAgg t).run P w = .ok false w) (hl : ∀ w, Oks E HS w → w.cell? ad = some v) (h : WA P E N ops Q HS ds fuel l' ((d, v) :: m) H) : WA P E N ops Q HS ds (fuel + 1) l m H :=
  WA.held i l' v hi hw hd hs hcb hQ (fun a w hF hS => by
    have hc := hl w hS
    simp only [execOp, hF.eval hx, Instr.loadAt, Instr.sureAddr, loadVar]
    simp [ha w, Go.load, Sem.run, hc]) h
theorem oks_cell {w : World} {k gb j : Nat} {cs : List Value} {tb : TypeId} {u : Value} (hS : Oks E HS w) (hk : HS[k]? = some (.blk gb cs tb)) (hj : cs[j]? = some u) : w.cell? ⟨gb, j, none⟩ = some u := by
  have := hS.1 _ (List.mem_of_getElem? hk)
  simp only [Ck.ok] at this
  simp [World.cell?, this, hj]
theorem WA.load {t : TypeId} {x : Operand} (i : Nat) (l' : Array Bool) (k gb j : Nat) (cs : List Value) (tb : TypeId) (v : Value) (hi : ops[i]? = some ⟨some d, .load t x, ty, pos, af, g⟩) (hw : Wd ops m g = some true) (hd : d < N) (hs : HS.Sublist H) (hcb : takeB .any ops ds l l' i = true) (hQ : Qp Q) (hx : ev m x = some (.pointer (some ⟨gb, j, none⟩)))
    (ha : ∀ w, (isAgg t).run P w = .ok false w) (hk : HS[k]? = some (.blk gb cs tb)) (hj : cs[j]? = some v) (h : WA P E N ops Q HS ds fuel l' ((d, v) :: m) H) : WA P E N ops Q HS ds (fuel + 1) l m H :=
  WA.load1 i l' ⟨gb, j, none⟩ v hi hw hd hs hcb hQ hx ha (fun w hS => oks_cell hS hk hj) h

/-- An operation that yields a value, and may change memory. -/
theorem WA.gen {op : Op} (i : Nat) (l' : Array Bool) (C : Value → List Ck → Prop) (hi : ops[i]? = some ⟨some d, op, ty, pos, af, g⟩) (hw : Wd ops m g = some true) (hd : d < N) (hcb : readyB .any ops l l' i = true) (hds : List.contains ds i = false)
    (hrun : ∀ a w, Fr N m a → I E H w → ∃ v w' H', (execOp a.eval ⟨some d, op, ty, pos, af, g⟩).run P w = .ok (.value v) w' ∧ C v H' ∧ I E H' w')
    (h : ∀ v H', C v H' → HS.Sublist H' ∧ WA P E N ops Q HS ds fuel l' ((d, v) :: m) H') : WA P E N ops Q HS ds (fuel + 1) l m H :=
  WA.one i l' hi hw hcb hds (fun a w hF hI K hK => by
    obtain ⟨v, w', H', hr, hC, hI'⟩ := hrun a w hF hI
    unfold Oper.wp
    rw [hr, Oper.upon_value]
    exact hK _ H' _ _ (hF.put hd v) hI' (h v H' hC).1 (h v H' hC).2)
/-- The same, behind which HS need not stand. -/
theorem WA.genL {op : Op} (i : Nat) (l' : Array Bool) (C : Value → List Ck → Prop) (hi : ops[i]? = some ⟨some d, op, ty, pos, af, g⟩) (hw : Wd ops m g = some true) (hd : d < N) (hcb : readyB .any ops l l' i = true) (hds : List.contains ds i = true)
    (hrun : ∀ a w, Fr N m a → I E H w → ∃ v w' H', (execOp a.eval ⟨some d, op, ty, pos, af, g⟩).run P w = .ok (.value v) w' ∧ C v H' ∧ I E H' w')
    (h : ∀ v H', C v H' → WA P E N ops Q HS ds fuel l' ((d, v) :: m) H') : WA P E N ops Q HS ds (fuel + 1) l m H :=
  WA.last i l' hi hw hcb hds (fun a w hF hI K hK => by
    obtain ⟨v, w', H', hr, hC, hI'⟩ := hrun a w hF hI
    unfold Oper.wp
    rw [hr, Oper.upon_value]
    exact hK _ H' _ _ (hF.put hd v) hI' (h v H' hC))
theorem WA.buildS {t : TypeId} {ps : List (Nat × Operand)} (i : Nat) (l' : Array Bool) (len e s : Nat) (vs : List (Nat × Value)) (cs : List Value) (hi : ops[i]? = some ⟨some d, .buildSlice t len ps.toArray, ty, pos, af, g⟩) (hw : Wd ops m g = some true) (hd : d < N) (hcb : readyB .any ops l l' i = true) (hds : List.contains ds i = false) (hs : HS.Sublist H)
    (hl : cs.length = len * s) (hmax : Nat.ble len 1000 = true) (hps : ps.map (fun p => (p.1, ev m p.2)) = vs.map (fun p => (p.1, some p.2)))
    (hrun : ∀ w, (Instr.buildSlice t len vs.toArray).run P w = .ok (.slice (some ⟨w.heap.size, 0, none⟩) len len) (w.alloc (.cells cs.toArray e (0, 0))))
    (h : ∀ gb, WA P E N ops Q HS ds fuel l' ((d, .slice (some ⟨gb, 0, none⟩) len len) :: m) (.row (.slice (some ⟨gb, 0, none⟩) len len) e s len cs :: H)) : WA P E N ops Q HS ds (fuel + 1) l m H :=
  WA.gen i l' (fun v H' => ∃ gb, v = .slice (some ⟨gb, 0, none⟩) len len ∧ H' = .row (.slice (some ⟨gb, 0, none⟩) len len) e s len cs :: H) hi hw hd hcb hds (run_buildS (N := N) (m := m) (E := E) (H := H) len e s vs cs hl hmax hps hrun)
    (fun v H' hC => by obtain ⟨gb, rfl, rfl⟩ := hC; exact ⟨.cons _ hs, h gb⟩)
theorem WA.append {t : TypeId} {x y : Operand} (i : Nat) (l' : Array Bool) (k e s bytes n q c : Nat) (z v : Value) (B : Option Addr) (xs news : List Value) (hi : ops[i]? = some ⟨some d, .call { callee := .builtin .append, args := #[x, y], argTypes := #[t, t] }, ty, pos, af, g⟩) (hw : Wd ops m g = some true) (hd : d < N) (hcb : readyB .any ops l l' i = true) (hds : List.contains ds i = true)
    (hx : ev m x = some v) (hy : ev m y = some (.slice B q c)) (ht : P.underlying t = some (.slice e)) (hinfo : (P.info? e).map (fun i => (i.zero, i.size, i.bytes)) = some (some z, s, bytes)) (hzs : z.cells.size = s) (hsz : 0 < s)
    (hk : H[k]? = some (.row v e s n xs)) (hr : ∀ w, I E H w → q ≤ c ∧ Rds w B q s news) (h1 : ∀ u ∈ news, u.oneCell' = true) (h63 : n + q ≤ 140737488355328) (hbytes : (n + q) * bytes ≤ 140737488355328)
    (h : ∀ A' c', WA P E N ops Q HS ds fuel l' ((d, .slice A' (n + q) c') :: m) (H.set k (.row (.slice A' (n + q) c') e s (n + q) (xs ++ news)))) : WA P E N ops Q HS ds (fuel + 1) l m H :=
  WA.genL i l' (fun v' H' => ∃ A' c', v' = .slice A' (n + q) c' ∧ H' = H.set k (.row (.slice A' (n + q) c') e s (n + q) (xs ++ news))) hi hw hd hcb hds (run_append_op k e s bytes n q c z v B xs news hx hy ht hinfo hzs hsz hk hr h1 h63 hbytes)
    (fun v' H' hC => by obtain ⟨A', c', rfl, rfl⟩ := hC; exact h A' c')
theorem WA.store {t : TypeId} {x y : Operand} (i : Nat) (l' : Array Bool) (k gb j : Nat) (cs vs cs' : List Value) (tb : TypeId) (v : Value) (hi : ops[i]? = some ⟨none, .store t x y, ty, pos, af, g⟩) (hw : Wd ops m g = some true) (hcb : readyB .any ops l l' i = true) (hds : List.contains ds i = true) (hx : ev m x = some (.pointer (some ⟨gb, j, none⟩))) (hy : ev m y = some v)
    (hk : H[k]? = some (.blk gb cs tb)) (hv : v.cells.toList = vs) (hs : ∀ w, (sizeOf t).run P w = .ok vs.length w) (h1 : vs.all (·.oneCell') = true) (hj : Nat.ble (j + vs.length) cs.length = true) (hp : putc cs j vs = cs')
    (h : WA P E N ops Q HS ds fuel l' m (H.set k (.blk gb cs' tb))) : WA P E N ops Q HS ds (fuel + 1) l m H :=
  WA.last i l' hi hw hcb hds (fun a w hF hI K hK => by
    obtain ⟨hrun, hI'⟩ := run_store_op (ty := ty) (pos := pos) (af := af) (g := g) k gb j cs vs cs' tb v hx hy hk hv hs h1 hj hp a w hF hI
    unfold Oper.wp
    rw [hrun, Oper.upon_skip]
    exact hK _ _ _ _ hF hI' h)
theorem WA.call {x : Operand} {ts : Array TypeId} {as : List Operand} {f : FuncId} {fn : Func} (i : Nat) (l' : Array Bool) (first cap vs : List Value) (args : Array Value) (H1 Hf : List Ck) {R : World → Prop} {C : Value → List Ck → Prop} (hc : Con P f args H1 R C)
    (hi : ops[i]? = some ⟨some d, .call { callee := .value x, args := as.toArray, argTypes := ts }, ty, pos, af, g⟩) (hw : Wd ops m g = some true) (hd : d < N) (hcb : readyB .any ops l l' i = true) (hds : List.contains ds i = false) (hx : ev m x = some (.func (.func f) first.toArray cap.toArray)) (hf : P.funcs[f]? = some fn) (hname : (fn.name == "runtime.NumGoroutine") = false) (hb : fn.body.isSome = true)
    (has : as.map (ev m) = vs.map some) (hargs : (first ++ vs ++ cap).toArray = args) (hp : (H1 ++ Hf).Perm H) (hR : ∀ w, I E H w → R w)
    (h : ∀ v H1', C v H1' → HS.Sublist (H1' ++ Hf) ∧ WA P E N ops Q HS ds fuel l' ((d, v) :: m) (H1' ++ Hf)) : WA P E N ops Q HS ds (fuel + 1) l m H :=
  WA.one i l' hi hw hcb hds (fun a w hF hI K hK => by
    unfold Oper.wp
    rw [run_call (args := args) hf hname hb (hF.eval hx) (by rw [List.map_toArray, evals hF _ _ has, ← hargs]; simp), Oper.upon_enter]
    have hI2 := hI.perm hp
    have hpw := List.pairwise_append.1 hI2.dj
    refine (hc w (fun c hc => hI2.ok c (List.mem_append_left _ hc)) hpw.1 (hR w hI)).mono ?_
    rintro e w' ⟨v, H1', hC, rfl, hI'⟩
    exact hK _ _ _ _ (hF.put hd v) (hI2.frame hI') (h v H1' hC).1 (h v H1' hC).2)
end
end
end Go.Proofs.Ytalafklnnohlgaa.X
