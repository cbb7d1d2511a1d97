/- The logic's rules for make and for a copy that fills a row. No condition of its own. -/
import Derived.Test.YtalafklnnohlgaaX5
namespace Go.Proofs.Ytalafklnnohlgaa.X
open Go.RowKit
set_option linter.unusedVariables false
set_option linter.unusedSimpArgs false
section
variable {P : Program} {E : Env} {N : Nat} {m : List (Nat × Value)} {H : List Ck} {Q : Exit → Act → World → Prop} {ops : Array Oper} {rest : List Oper}
variable {ty t t2 : TypeId} {pos : String} {af : Array Edge} {g : Option (Nat × Bool)} {d : Nat} {x y : Operand}

theorem WL.make (e s bytes : Nat) (z : Value) (kl kc : IntKind) (n c : Nat) (hw : Wd ops m g = some true) (hd : d < N) (hx : ev m x = some (.int kl n)) (hy : ev m y = some (.int kc c))
    (ht : P.underlying t = some (.slice e)) (hinfo : (P.info? e).map (fun i => (i.zero, i.size, i.bytes)) = some (some z, s, bytes)) (hnc : n ≤ c) (hb : bytes * c ≤ 281474976710656) (hc : c ≤ 140737488355328)
    (h : ∀ gb xs, WL P E N ops Q ((d, .slice (some ⟨gb, 0, none⟩) n c) :: m) (.row (.slice (some ⟨gb, 0, none⟩) n c) e s n xs :: H) rest) : WL P E N ops Q m H (⟨some d, .makeSlice t x y, ty, pos, af, g⟩ :: rest) := by
  obtain ⟨i0, hi0, hzz⟩ := Option.map_eq_some_iff.1 hinfo
  simp only [Prod.mk.injEq] at hzz
  obtain ⟨hz0, rfl, rfl⟩ := hzz
  refine WL.gen (fun v H' => ∃ gb xs, v = .slice (some ⟨gb, 0, none⟩) n c ∧ H' = .row (.slice (some ⟨gb, 0, none⟩) n c) e i0.size n xs :: H) hw hd (fun a w hF hI => ?_) (fun v H' hC => by obtain ⟨gb, xs, rfl, rfl⟩ := hC; exact h gb xs)
  have hr := run_make (P := P) w t e i0 z ht hi0 hz0 kl kc n c (by omega) (by omega) (by rw [← Int.natCast_mul]; omega) (by omega)
  refine ⟨_, _, _, ?_, ⟨w.heap.size, (madeCells z.cells (c * i0.size)).toList.take (n * i0.size), rfl, rfl⟩, hI.add (World.grownBy_alloc w (.cells (madeCells z.cells (c * i0.size)) e) none) ?_ (fun k hk => by simp only [Ck.fp, Value.ownBlock, Option.some.injEq] at hk; omega)⟩
  · simp only [execOp, hF.eval hx, hF.eval hy]
    simp [hr]
  · refine ⟨by simp [size_madeCells, Nat.min_eq_left (Nat.mul_le_mul_right i0.size hnc)], .inr ⟨w.heap.size, c, _, rfl, Nat.zero_le _, heap_push w _, hnc, by simp only [maxLen]; omega, by rw [size_madeCells], rfl⟩⟩

theorem run_copy_fill {w : World} (t ty e : TypeId) (i : TypeInfo) (ht : P.underlying t = some (.slice e)) (hi : P.info? e = some i) (hs : i.size = 1)
    (A : Option Addr) (n c : Nat) (xs : List Value) (hown : w.ownsRow 0 e 1 (.slice A n c) n xs) (B : Option Addr) (cb : Nat) (news : List Value) (hr : Rds w B n 1 news) (h1 : ∀ u ∈ news, u.oneCell' = true) :
    ∃ w', (Builtin.copy_ #[t, t] ty #[.slice A n c, .slice B n cb]).run P w = .ok (.int .i64 n) w' ∧ w'.ownsRow 0 e 1 (.slice A n c) n news ∧ w.grownBy w' (Value.ownBlock (.slice A n c)) := by
  have hl : news.length = n := by have := hr.len; omega
  have hsz : (P.info? e).map (·.size) = some 1 := by rw [hi]; simp [hs]
  cases B with
  | none =>
    obtain rfl := hr.nil rfl
    obtain rfl : news = [] := List.eq_nil_of_length_eq_zero hl
    refine ⟨w, ?_, ?_, World.grownBy.refl _ _⟩
    · cases A <;> simp [Builtin.copy_, run_underlying ht, Builtin.lenOf, Builtin.firstCells, sizeOf, typeInfo, hi, storeCells, goInt]
    · obtain ⟨h0, h2⟩ := hown
      obtain rfl : xs = [] := List.eq_nil_of_length_eq_zero (by simpa using h0)
      exact ⟨h0, h2⟩
  | some ad =>
    obtain ⟨h0, h2⟩ := hown
    rcases h2 with ⟨he, hn0⟩ | ⟨gb, cap, cur, he, _, hg, hnc, hcm, hcs, htk⟩
    · injection he with hA hn hc
      subst hA hn hc
      obtain rfl : news = [] := List.eq_nil_of_length_eq_zero hl
      refine ⟨w, ?_, ⟨by simp, .inl ⟨rfl, rfl⟩⟩, World.grownBy.refl _ _⟩
      simp [Builtin.copy_, run_underlying ht, Builtin.lenOf, sizeOf, typeInfo, hi, goInt, run_firstCells_some w i.size 0 ad 0 cb [] (by simp) (by simp)]
    · injection he with hA hn hc
      subst hA hc
      have hcp := run_copy_row (P := P) w t t ty e gb 0 n c ad n cb cur e news ht hsz hg (by rw [hl]; exact (Nat.min_self n).symm) (hr.at_ ad rfl) (by rw [hl]; omega) h1
      refine ⟨_, by rw [hcp, hl]; rfl, ⟨by rw [hl]; simp, .inr ⟨gb, c, _, rfl, Nat.zero_le _, setRow_heap w gb cur _ e _ hg, hnc, hcm, ?_, ?_⟩⟩, grownBy_setRow w gb _⟩
      · simp only [List.size_toArray, List.length_append, List.length_take, List.length_drop, Array.length_toList]; omega
      · simp [hl]
theorem WL.copy (i e cb n c : Nat) (A B : Option Addr) (z : Value) (bytes : Nat) (xs news : List Value) (hw : Wd ops m g = some true) (hd : d < N) (hx : ev m x = some (.slice A n c)) (hy : ev m y = some (.slice B n cb))
    (ht : P.underlying t = some (.slice e)) (hinfo : (P.info? e).map (fun i => (i.zero, i.size, i.bytes)) = some (some z, 1, bytes)) (hi : H[i]? = some (.row (.slice A n c) e 1 n xs)) (hr : ∀ w, I E H w → Rds w B n 1 news) (h1 : ∀ u ∈ news, u.oneCell' = true)
    (h : WL P E N ops Q ((d, .int .i64 n) :: m) (H.set i (.row (.slice A n c) e 1 n news)) rest) : WL P E N ops Q m H (⟨some d, .call { callee := .builtin .copy, args := #[x, y], argTypes := #[t, t] }, ty, pos, af, g⟩ :: rest) := by
  obtain ⟨i0, hi0, hzz⟩ := Option.map_eq_some_iff.1 hinfo
  simp only [Prod.mk.injEq] at hzz
  obtain ⟨hz0, hz1, hz2⟩ := hzz
  refine WL.gen (fun v H' => v = .int .i64 n ∧ H' = H.set i (.row (.slice A n c) e 1 n news)) hw hd (fun a w hF hI => ?_) (fun v H' hC => by obtain ⟨rfl, rfl⟩ := hC; exact h)
  obtain ⟨w', r1, r2, r3⟩ := run_copy_fill (P := P) t ty e i0 ht hi0 hz1 A n c xs (hI.ok _ (List.mem_of_getElem? hi)) B cb news (hr w hI) h1
  refine ⟨_, w', _, ?_, ⟨rfl, rfl⟩, hI.change hi r3 r2 (fun q hq => .inl hq)⟩
  simp only [execOp, resolve, invoke, List.map_toArray, List.map_cons, List.map_nil, hF.eval hx, hF.eval hy]
  simp [builtin, r1]

/-- What was read at the entry is read still. -/
theorem Rds.kept {w : World} {A : Option Addr} {n s : Nat} {xs : List Value} (h : Rds E.w0 A n s xs) (hk : Kept E w) (hF : ∀ ad, A = some ad → ¬ E.F ad.block) : Rds w A n s xs :=
  ⟨h.len, h.nil, fun ad had j u hu => by
    have h0 := h.at_ ad had j u hu
    have hb : (ad.add j).block = ad.block := by unfold Addr.add; split <;> rfl
    have hlt : (ad.add j).block < E.w0.heap.size := World.block_lt_of_cell? _ _ h0
    rw [World.cell?_of_block (hk.block _ hlt (by rw [hb]; exact hF ad had))]; exact h0⟩

/-! #### pointers held against nil, bools -/
theorem equalIn_ps {e : TypeId} (a : Addr) (ht : P.underlying t = some (.pointer e)) (w : World) (d : Nat) : (Op.equalIn (d + 1) t (.pointer (some a)) (.pointer none)).run P w = .ok false w := by simp [Op.equalIn, run_underlying ht]
theorem equalIn_pn {e : TypeId} (ht : P.underlying t = some (.pointer e)) (w : World) (d : Nat) : (Op.equalIn (d + 1) t (.pointer none) (.pointer none)).run P w = .ok true w := by simp [Op.equalIn, run_underlying ht]
theorem equalIn_b (a b : Bool) (ht : P.underlying t = some .bool) (w : World) (d : Nat) : (Op.equalIn (d + 1) t (.bool a) (.bool b)).run P w = .ok (a == b) w := by simp [Op.equalIn, run_underlying ht]
theorem run_peq_s {e : TypeId} (a : Addr) (ht : P.underlying t = some (.pointer e)) (w : World) : (do eqGuard .eql t x y (.pointer (some a)) (.pointer none); binOp .eql t (.pointer (some a)) (.pointer none) : Sem Value).run P w = .ok (.bool false) w := by
  simp only [binOp]
  simp [eqGuard, Op.equal, Op.maxDepth, equalIn_ps a ht w 9999]
theorem run_pne_s {e : TypeId} (a : Addr) (ht : P.underlying t = some (.pointer e)) (w : World) : (do eqGuard .neq t x y (.pointer (some a)) (.pointer none); binOp .neq t (.pointer (some a)) (.pointer none) : Sem Value).run P w = .ok (.bool true) w := by
  simp only [binOp]
  simp [eqGuard, Op.equal, Op.maxDepth, equalIn_ps a ht w 9999]
theorem run_peq_n {e : TypeId} (ht : P.underlying t = some (.pointer e)) (w : World) : (do eqGuard .eql t x y (.pointer none) (.pointer none); binOp .eql t (.pointer none) (.pointer none) : Sem Value).run P w = .ok (.bool true) w := by
  simp only [binOp]
  simp [eqGuard, Op.equal, Op.maxDepth, equalIn_pn ht w 9999]
theorem run_pne_n {e : TypeId} (ht : P.underlying t = some (.pointer e)) (w : World) : (do eqGuard .neq t x y (.pointer none) (.pointer none); binOp .neq t (.pointer none) (.pointer none) : Sem Value).run P w = .ok (.bool false) w := by
  simp only [binOp]
  simp [eqGuard, Op.equal, Op.maxDepth, equalIn_pn ht w 9999]
theorem run_beq (a b : Bool) (ht : P.underlying t = some .bool) (w : World) : (do eqGuard .eql t x y (.bool a) (.bool b); binOp .eql t (.bool a) (.bool b) : Sem Value).run P w = .ok (.bool (a == b)) w := by
  simp only [binOp]
  simp [eqGuard, Op.equal, Op.maxDepth, equalIn_b a b ht w 9999]
theorem run_bne (a b : Bool) (ht : P.underlying t = some .bool) (w : World) : (do eqGuard .neq t x y (.bool a) (.bool b); binOp .neq t (.bool a) (.bool b) : Sem Value).run P w = .ok (.bool (!(a == b))) w := by
  simp only [binOp]
  simp [eqGuard, Op.equal, Op.maxDepth, equalIn_b a b ht w 9999]
theorem WL.peq_s (e : TypeId) (a : Addr) (ht : P.underlying t = some (.pointer e)) (hw : Wd ops m g = some true) (hd : d < N) (hx : ev m x = some (.pointer (some a))) (hy : ev m y = some (.pointer none)) (h : WL P E N ops Q ((d, .bool false) :: m) H rest) : WL P E N ops Q m H (⟨some d, .binOp .eql t x y t2, ty, pos, af, g⟩ :: rest) :=
  WL.bin _ _ _ hw hd hx hy (run_peq_s a ht) h
theorem WL.pne_s (e : TypeId) (a : Addr) (ht : P.underlying t = some (.pointer e)) (hw : Wd ops m g = some true) (hd : d < N) (hx : ev m x = some (.pointer (some a))) (hy : ev m y = some (.pointer none)) (h : WL P E N ops Q ((d, .bool true) :: m) H rest) : WL P E N ops Q m H (⟨some d, .binOp .neq t x y t2, ty, pos, af, g⟩ :: rest) :=
  WL.bin _ _ _ hw hd hx hy (run_pne_s a ht) h
theorem WL.peq_n (e : TypeId) (ht : P.underlying t = some (.pointer e)) (hw : Wd ops m g = some true) (hd : d < N) (hx : ev m x = some (.pointer none)) (hy : ev m y = some (.pointer none)) (h : WL P E N ops Q ((d, .bool true) :: m) H rest) : WL P E N ops Q m H (⟨some d, .binOp .eql t x y t2, ty, pos, af, g⟩ :: rest) :=
  WL.bin _ _ _ hw hd hx hy (run_peq_n ht) h
theorem WL.pne_n (e : TypeId) (ht : P.underlying t = some (.pointer e)) (hw : Wd ops m g = some true) (hd : d < N) (hx : ev m x = some (.pointer none)) (hy : ev m y = some (.pointer none)) (h : WL P E N ops Q ((d, .bool false) :: m) H rest) : WL P E N ops Q m H (⟨some d, .binOp .neq t x y t2, ty, pos, af, g⟩ :: rest) :=
  WL.bin _ _ _ hw hd hx hy (run_pne_n ht) h
theorem WL.beq (a b : Bool) (ht : P.underlying t = some .bool) (hw : Wd ops m g = some true) (hd : d < N) (hx : ev m x = some (.bool a)) (hy : ev m y = some (.bool b)) (h : WL P E N ops Q ((d, .bool (a == b)) :: m) H rest) : WL P E N ops Q m H (⟨some d, .binOp .eql t x y t2, ty, pos, af, g⟩ :: rest) :=
  WL.bin _ _ _ hw hd hx hy (run_beq a b ht) h
theorem WL.bne (a b : Bool) (ht : P.underlying t = some .bool) (hw : Wd ops m g = some true) (hd : d < N) (hx : ev m x = some (.bool a)) (hy : ev m y = some (.bool b)) (h : WL P E N ops Q ((d, .bool (!(a == b))) :: m) H rest) : WL P E N ops Q m H (⟨some d, .binOp .neq t x y t2, ty, pos, af, g⟩ :: rest) :=
  WL.bin _ _ _ hw hd hx hy (run_bne a b ht) h
/-- Both ways of a bool in a slot. -/
theorem WL.split {l : List Oper} (s : Nat) (b : Bool) (hs : lk m s = some (.bool b)) (ht : b = true → WL P E N ops Q ((s, .bool true) :: m) H l) (hf : b = false → WL P E N ops Q ((s, .bool false) :: m) H l) : WL P E N ops Q m H l := by
  cases b with
  | true => exact WL.know _ hs rfl (ht rfl)
  | false => exact WL.know _ hs rfl (hf rfl)
theorem WA.split {HS : List Ck} {ds : List Nat} {fuel : Nat} {l : Array Bool} (s : Nat) (b : Bool) (hs : lk m s = some (.bool b)) (ht : b = true → WA P E N ops Q HS ds fuel l ((s, .bool true) :: m) H) (hf : b = false → WA P E N ops Q HS ds fuel l ((s, .bool false) :: m) H) : WA P E N ops Q HS ds fuel l m H := by
  cases b with
  | true => exact WA.know _ hs rfl (ht rfl)
  | false => exact WA.know _ hs rfl (hf rfl)
end
end Go.Proofs.Ytalafklnnohlgaa.X
