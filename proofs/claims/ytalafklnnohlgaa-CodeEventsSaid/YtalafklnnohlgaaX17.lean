/- Rules: strings walked, indexed, measured; an element of an array that a variable holds. No condition: every rule holds of every program. -/
import Derived.Test.YtalafklnnohlgaaX13
namespace Go.Proofs.Ytalafklnnohlgaa.X
open Go.RowKit
set_option linter.unusedVariables false
set_option linter.unusedSimpArgs false

theorem str_at (l : List Int) (j : Nat) : (strOfNums l)[j]? = (l[j]?).map (fun n => UInt8.ofNat n.toNat) := by
  rcases Nat.lt_or_ge j l.length with h | h
  · have h2 : j < (strOfNums l).size := by rw [strOfNums_size]; exact h
    rw [getElem?_pos _ j h2, List.getElem?_eq_getElem h]
    simp only [Option.map_some, Option.some.injEq]
    show (strOfNums l).data[j] = _
    simp [strOfNums]
  · have h2 : ¬ j < (strOfNums l).size := by rw [strOfNums_size]; omega
    rw [getElem?_neg _ j h2, List.getElem?_eq_none h]
    rfl
section
variable {P : Program} {E : Env} {N : Nat} {m : List (Nat × Value)} {H : List Ck} {Q : Exit → Act → World → Prop} {ops : Array Oper} {rest : List Oper}
variable {ty t t2 : TypeId} {pos : String} {af : Array Edge} {g : Option (Nat × Bool)} {d : Nat} {x y z : Operand}
theorem WL.lenS (l : List Int) (ht : P.underlying t = some .string) (hw : Wd ops m g = some true) (hd : d < N) (hx : ev m x = some (.string (strOfNums l)))
    (h : WL P E N ops Q ((d, .int .i64 l.length) :: m) H rest) : WL P E N ops Q m H (⟨some d, .call { callee := .builtin .len, args := #[x], argTypes := #[t] }, ty, pos, af, g⟩ :: rest) :=
  WL.val _ hw hd (fun a w hF hI => by
    simp only [execOp, resolve, invoke, List.map_toArray, List.map_cons, List.map_nil, hF.eval hx]
    simp [builtin, Builtin.len_, run_underlying ht, goInt, strOfNums_size]) h
theorem WL.idxS (l : List Int) (k : IntKind) (j : Int) (c : Int) (ht : P.underlying t = some .string) (hw : Wd ops m g = some true) (hd : d < N) (hx : ev m x = some (.string (strOfNums l))) (hy : ev m y = some (.int k j)) (h0 : 0 ≤ j) (hc : l[j.toNat]? = some c) (h8 : 0 ≤ c ∧ c < 256)
    (h : WL P E N ops Q ((d, .int .u8 c) :: m) H rest) : WL P E N ops Q m H (⟨some d, .index t x y, ty, pos, af, g⟩ :: rest) :=
  WL.index _ _ _ hw hd hx hy (fun w => by
    have h2 : (UInt8.ofNat c.toNat).toNat = c.toNat := by rw [UInt8.toNat_ofNat']; omega
    have h3 : ((c.toNat : Nat) : Int) = c := by omega
    simp [Instr.index, asIntOf, run_underlying ht, h0, str_at, hc, h2, h3]) h
theorem WL.idxA (gb j0 len e s : Nat) (k : IntKind) (j : Int) (hw : Wd ops m g = some true) (hd : d < N) (hx : ev m x = some (.pointer (some ⟨gb, j0, none⟩))) (hy : ev m y = some (.int k j))
    (ht : P.underlying t = some (.array len e)) (hs : ∀ w, (sizeOf e).run P w = .ok s w) (h0 : 0 ≤ j) (h1 : j < len)
    (h : WL P E N ops Q ((d, .pointer (some ⟨gb, j0 + j.toNat * s, none⟩)) :: m) H rest) : WL P E N ops Q m H (⟨some d, .indexAddr t x y, ty, pos, af, g⟩ :: rest) :=
  WL.val _ hw hd (fun a w hF hI => by
    simp only [execOp, hF.eval hx, hF.eval hy, Instr.indexAt, Instr.sureAddr]
    simp [asIntOf, run_underlying ht, hs w, h0, h1, add_at]) h
theorem WL.range (s : ByteArray) (ht : P.underlying t = some .string) (hw : Wd ops m g = some true) (hd : d < N) (hx : ev m x = some (.string s))
    (h : ∀ r, WL P E N ops Q ((d, .pointer (some ⟨r, 0, none⟩)) :: m) (.obj r (.stringIter s 0) :: H) rest) : WL P E N ops Q m H (⟨some d, .range t x, ty, pos, af, g⟩ :: rest) :=
  WL.gen (fun v H' => ∃ r, v = .pointer (some ⟨r, 0, none⟩) ∧ H' = .obj r (.stringIter s 0) :: H) hw hd
    (fun a w hF hI => ⟨_, _, _, by
      simp only [execOp, hF.eval hx, Instr.range]
      simp [run_underlying ht, newObj, Sem.run], ⟨_, rfl, rfl⟩, hI.add (World.grownBy_alloc w _ none) (heap_push w _) (fun k hk => by simp only [Ck.fp, Option.some.injEq] at hk; omega)⟩)
    (fun v H' hC => by obtain ⟨r, rfl, rfl⟩ := hC; exact h r)
theorem WL.next (i r : Nat) (s : ByteArray) (p c n : Nat) (hw : Wd ops m g = some true) (hd : d < N) (hx : ev m x = some (.pointer (some ⟨r, 0, none⟩))) (hi : H[i]? = some (.obj r (.stringIter s p))) (hp : p < s.size) (hc : Utf8.decode s p = (c, n))
    (h : WL P E N ops Q ((d, .tuple #[.bool true, .int .i64 p, .int .i32 c]) :: m) (H.set i (.obj r (.stringIter s (p + n)))) rest) : WL P E N ops Q m H (⟨some d, .next x true, ty, pos, af, g⟩ :: rest) :=
  WL.gen (fun v H' => v = .tuple #[.bool true, .int .i64 p, .int .i32 c] ∧ H' = H.set i (.obj r (.stringIter s (p + n)))) hw hd
    (fun a w hF hI => by
      have hb : w.heap[r]? = some (.stringIter s p) := hI.ok _ (List.mem_of_getElem? hi)
      have hlt : r < w.heap.size := (Array.getElem?_eq_some_iff.1 hb).1
      refine ⟨_, _, _, ?_, ⟨rfl, rfl⟩, hI.change (c' := .obj r (.stringIter s (p + n))) hi (grownBy_set w r (.stringIter s (p + n))) ?_ (fun k hk => .inl hk)⟩
      · simp only [execOp, hF.eval hx, Instr.next]
        simp [getObj, setObj, Sem.run, hb, hp, hc, goInt]
      · show (w.heap.setIfInBounds r _)[r]? = some _
        simp [hlt])
    (fun v H' hC => by obtain ⟨rfl, rfl⟩ := hC; exact h)
theorem WL.nexte (i r : Nat) (s : ByteArray) (p : Nat) (hw : Wd ops m g = some true) (hd : d < N) (hx : ev m x = some (.pointer (some ⟨r, 0, none⟩))) (hi : H[i]? = some (.obj r (.stringIter s p))) (hp : ¬ p < s.size)
    (h : WL P E N ops Q ((d, .tuple #[.bool false]) :: m) H rest) : WL P E N ops Q m H (⟨some d, .next x true, ty, pos, af, g⟩ :: rest) :=
  WL.val _ hw hd
    (fun a w hF hI => by
      have hb : w.heap[r]? = some (.stringIter s p) := hI.ok _ (List.mem_of_getElem? hi)
      simp only [execOp, hF.eval hx, Instr.next]
      simp [getObj, Sem.run, hb, hp]) h
end
end Go.Proofs.Ytalafklnnohlgaa.X
