/- More rules: bytes as a string, zeros appended, a row cut short, a cell of a row set, cap. No condition: every rule holds of every program. -/
import Derived.Test.YtalafklnnohlgaaX8
import Derived.Test.YtalafklnnohlgaaWZeros
import Derived.Laws.BytesArg
namespace Go.Proofs.Ytalafklnnohlgaa.X
open Go.RowKit Go.Proofs.YtalafklnnohlgaaW.PrintLast
set_option linter.unusedVariables false
set_option linter.unusedSimpArgs false
section
variable {P : Program} {E : Env} {N : Nat} {m : List (Nat × Value)} {H : List Ck} {Q : Exit → Act → World → Prop} {ops : Array Oper} {rest : List Oper}
variable {ty t t2 : TypeId} {pos : String} {af : Array Edge} {g : Option (Nat × Bool)} {d : Nat} {x y z : Operand}

theorem run_bstr {w : World} {src dst e : TypeId} {A : Option Addr} {n c : Nat} {l : List Int} (hs : P.underlying src = some (.slice e)) (he : P.underlying e = some (.int .u8)) (hd : P.underlying dst = some .string) (h : Rds w A n 1 (l.map (Value.int .u8))) :
    (convert src dst (.slice A n c)).run P w = .ok (.string (strOfNums l)) w := by
  cases A with
  | none =>
    have h0 := h.nil rfl
    have hl := h.len
    subst h0
    obtain rfl : l = [] := List.eq_nil_of_length_eq_zero (by simpa using hl)
    rw [run_convert_bytes_nil w src e hs he 0 c dst hd]
    rfl
  | some ad =>
    have hl : (loadCells ad n).run P w = .ok (l.map (Value.int .u8)).toArray w := by
      have := loadCells_list (P := P) (w := w) (ad := ad) (l.map (Value.int .u8)) 0 #[] (fun j u hj => by rw [Nat.zero_add]; exact h.at_ ad rfl j u hj)
      rw [h.len, Nat.mul_one] at this
      simpa [loadCells] using this
    rw [run_convert_bytes_string w src dst e _ n c hs he hd, run_bytesToString w ad n c l hl, foldl_push_bytes]
    simp [strOfNums, ByteArray.empty, ByteArray.emptyWithCapacity]
    rfl
theorem WL.bstr {src dst e : TypeId} {A : Option Addr} {n c : Nat} (l : List Int) (hs : P.underlying src = some (.slice e)) (he : P.underlying e = some (.int .u8)) (hdt : P.underlying dst = some .string) (hw : Wd ops m g = some true) (hd : d < N) (hx : ev m x = some (.slice A n c)) (hr : ∀ w, I E H w → Rds w A n 1 (l.map (Value.int .u8)))
    (h : WL P E N ops Q ((d, .string (strOfNums l)) :: m) H rest) : WL P E N ops Q m H (⟨some d, .convert src dst x, ty, pos, af, g⟩ :: rest) :=
  WL.val _ hw hd (fun a w hF hI => by simp only [execOp, hF.eval hx]; simp [run_bstr hs he hdt (hr w hI)]) h
theorem run_seq (a b : ByteArray) (ht : P.underlying t = some .string) (w : World) : (do eqGuard .eql t x y (.string a) (.string b); binOp .eql t (.string a) (.string b) : Sem Value).run P w = .ok (.bool (a.toList == b.toList)) w := by
  simp only [binOp]
  simp [eqGuard, Op.stringOp]
theorem WL.seq (a b : ByteArray) (ht : P.underlying t = some .string) (hw : Wd ops m g = some true) (hd : d < N) (hx : ev m x = some (.string a)) (hy : ev m y = some (.string b)) (h : WL P E N ops Q ((d, .bool (a.toList == b.toList)) :: m) H rest) : WL P E N ops Q m H (⟨some d, .binOp .eql t x y t2, ty, pos, af, g⟩ :: rest) :=
  WL.bin _ _ _ hw hd hx hy (run_seq a b ht) h
theorem WL.cap (A : Option Addr) (n c e : Nat) (ht : P.underlying t = some (.slice e)) (hw : Wd ops m g = some true) (hd : d < N) (hx : ev m x = some (.slice A n c))
    (h : WL P E N ops Q ((d, .int .i64 c) :: m) H rest) : WL P E N ops Q m H (⟨some d, .call { callee := .builtin .cap, args := #[x], argTypes := #[t] }, ty, pos, af, g⟩ :: rest) :=
  WL.val _ hw hd (fun a w hF hI => by
    simp only [execOp, resolve, invoke, List.map_toArray, List.map_cons, List.map_nil, hF.eval hx]
    simp [builtin, Builtin.cap_, run_underlying ht, goInt]) h

/-- Zeros appended to a row of one's own. -/
theorem WL.appz {ti : TypeId} (i : Nat) (e s bytes n k : Nat) (z0 v : Value) (kt kx : IntKind) (xs : List Value) (hw : Wd ops m g = some true) (hd : d < N) (hx : ev m x = some v) (hy : ev m y = some (.int kx k))
    (ht : P.underlying t = some (.slice e)) (hti : P.underlying ti = some (.int kt)) (hinfo : (P.info? e).map (fun i => (i.zero, i.size, i.bytes)) = some (some z0, s, bytes)) (hzs : z0.cells.size = s) (hsz : 0 < s) (hb0 : 0 < bytes)
    (hi : H[i]? = some (.row v e s n xs)) (h1 : ∀ u ∈ (Builtin.zeroCells z0.cells k).toList, u.oneCell' = true) (hbytes : (n + k) * bytes ≤ 140737488355328)
    (h : ∀ A' c', WL P E N ops Q ((d, .slice A' (n + k) c') :: m) (H.set i (.row (.slice A' (n + k) c') e s (n + k) (xs ++ (Builtin.zeroCells z0.cells k).toList))) rest) :
    WL P E N ops Q m H (⟨some d, .call { callee := .builtin .append, args := #[x, y], argTypes := #[t, ti] }, ty, pos, af, g⟩ :: rest) := by
  obtain ⟨i0, hi0, hzz⟩ := Option.map_eq_some_iff.1 hinfo
  simp only [Prod.mk.injEq] at hzz
  obtain ⟨hz0, hz1, hz2⟩ := hzz
  refine WL.gen (fun v' H' => ∃ A' c', v' = .slice A' (n + k) c' ∧ H' = H.set i (.row (.slice A' (n + k) c') e s (n + k) (xs ++ (Builtin.zeroCells z0.cells k).toList))) hw hd (fun a w hF hI => ?_) (fun v' H' hC => by obtain ⟨A', c', rfl, rfl⟩ := hC; exact h A' c')
  have hown := hI.ok _ (List.mem_of_getElem? hi)
  obtain ⟨v', w', r1, r2, r3, r4⟩ := Go.Proofs.YtalafklnnohlgaaW.PrintWords.run_append_zeros (P := P) w 0 t ti ty e i0 z0 s bytes ht hti hi0 hz0 hz1 hz2 hzs hsz hb0 v n xs hown kx k h1 hbytes (Nat.zero_le _)
  obtain ⟨A', c', rfl, _, _⟩ := own_form r2
  refine ⟨_, w', _, ?_, ⟨A', c', rfl, rfl⟩, hI.change hi r3 r2 (fun q hq => ?_)⟩
  · simp only [execOp, resolve, invoke, List.map_toArray, List.map_cons, List.map_nil, hF.eval hx, hF.eval hy]
    simp [builtin, r1]
  · rcases r4 with r4 | r4
    · exact .inl (show v.ownBlock = some q from r4 ▸ hq)
    · have hq' : Value.ownBlock (.slice A' (n + k) c') = some q := hq
      rw [r4] at hq'; exact .inr (by simp at hq'; omega)

/-- A chunk seen as another with the same footprint, of the same block's content. -/
theorem I.recast {w : World} {c c' : Ck} {i : Nat} (h : I E H w) (hi : H[i]? = some c) (hc : c'.ok w) (hf : c'.fp = c.fp) : I E (H.set i c') w :=
  h.change hi ⟨rfl, rfl, rfl, Nat.le_refl _, fun _ _ _ => rfl⟩ hc (fun k hk => .inl (hf ▸ hk))
theorem shrink_ok {w : World} {e s n c k : Nat} {A : Option Addr} {xs : List Value} (hk : k ≤ n) (h : w.ownsRow 0 e s (.slice A n c) n xs) : w.ownsRow 0 e s (.slice A k c) k (xs.take (k * s)) := by
  obtain ⟨h1, h2⟩ := h
  have hm : k * s ≤ n * s := Nat.mul_le_mul_right s hk
  refine ⟨by rw [List.length_take, h1, Nat.min_eq_left hm], ?_⟩
  rcases h2 with ⟨hv, rfl⟩ | ⟨gb, cap, cur, hv, h3, h4, h5, h6, h7, h8⟩
  · cases hv
    obtain rfl : k = 0 := by omega
    exact .inl ⟨rfl, rfl⟩
  · cases hv
    refine .inr ⟨gb, c, cur, rfl, h3, h4, by omega, h6, h7, ?_⟩
    rw [← h8, List.take_take, Nat.min_eq_left hm]
/-- A row cut short. -/
theorem WL.shrink {l : List Oper} (i e s n c k : Nat) (A : Option Addr) (xs : List Value) (hi : H[i]? = some (.row (.slice A n c) e s n xs)) (hk : k ≤ n) (h : WL P E N ops Q m (H.set i (.row (.slice A k c) e s k (xs.take (k * s)))) l) : WL P E N ops Q m H l :=
  fun a w hF hI => h a w hF (hI.recast hi (shrink_ok hk (hI.ok _ (List.mem_of_getElem? hi))) (by cases A <;> rfl))

/-- One cell of a row of one's own is set. -/
theorem WL.setrow (i e n c : Nat) (A : Option Addr) (ad : Addr) (xs : List Value) (j : Nat) (v : Value) (had : A = some ad) (hw : Wd ops m g = some true) (hx : ev m x = some (.pointer (some (ad.add (j * 1))))) (hy : ev m y = some v)
    (hi : H[i]? = some (.row (.slice A n c) e 1 n xs)) (hj : j < n) (hv : v.cells.toList = [v]) (h1 : v.oneCell' = true) (hs : ∀ w, (sizeOf t).run P w = .ok 1 w)
    (h : WL P E N ops Q m (H.set i (.row (.slice A n c) e 1 n (xs.set j v))) rest) : WL P E N ops Q m H (⟨none, .store t x y, ty, pos, af, g⟩ :: rest) := by
  intro a w hF hI
  refine wpList_on (Wd.spec hF hw) ?_
  obtain ⟨k1, k2⟩ := hI.ok _ (List.mem_of_getElem? hi)
  subst had
  rcases k2 with ⟨hv0, _⟩ | ⟨gb, cap, cur, hv0, h3, h4, h5, h6, h7, h8⟩
  · cases hv0
  cases hv0
  have hst := run_storeCells_at (P := P) gb j e [v] 0 cur w h4 (by simp; omega) (fun u hu => by simp at hu; subst hu; exact h1)
  simp only [Nat.add_zero] at hst
  have had : (⟨gb, 0, none⟩ : Addr).add (j * 1) = ⟨gb, j, none⟩ := by rw [add_at, Nat.zero_add, Nat.mul_one]
  have hsz : v.cells.size = 1 := by have := congrArg List.length hv; simpa using this
  have hlist : cur.toList.take j ++ [v] ++ cur.toList.drop (j + 1) = cur.toList.set j v := by
    rw [List.set_eq_take_append_cons_drop, if_pos (by simp; omega)]; simp
  have hrun : (execOp a.eval ⟨none, .store t x y, ty, pos, af, g⟩).run P w = .ok .skip (w.setRow gb (cur.toList.set j v).toArray) := by
    rw [← hlist]
    simp only [execOp, hF.eval hx, hF.eval hy, Instr.storeAt, Instr.sureAddr, storeVar, had]
    simp [hs w, hsz, hv, hst]
  unfold Oper.wp
  rw [hrun, Oper.upon_skip]
  refine h _ _ hF (hI.change hi (grownBy_setRow w gb _) ⟨by simpa using k1, .inr ⟨gb, c, _, rfl, Nat.zero_le _, setRow_heap w gb cur _ e _ h4, h5, h6, by simpa using h7, ?_⟩⟩ (fun k hk => .inl hk))
  simp only [List.toList_toArray]
  rw [← h8, List.take_set]
end
end Go.Proofs.Ytalafklnnohlgaa.X
