/- Rules: bytes as a string; a cut behind the first part of a sequence. No condition: every rule holds of every program. -/
import Derived.Test.YtalafklnnohlgaaX8
import Derived.Laws.BytesArg
namespace Go.Proofs.Ytalafklnnohlgaa.X
open Go.RowKit Go.Proofs.YtalafklnnohlgaaW.PrintLast
set_option linter.unusedVariables false
set_option linter.unusedSimpArgs false
section
variable {P : Program} {E : Env} {N : Nat} {m : List (Nat × Value)} {H : List Ck} {Q : Exit → Act → World → Prop} {ops : Array Oper} {rest : List Oper}
variable {ty t t2 : TypeId} {pos : String} {af : Array Edge} {g : Option (Nat × Bool)} {d : Nat} {x y z : Operand}

theorem run_bstr {w : World} {src dst e : TypeId} {A : Option Addr} {n c : Nat} {l : List Int} (hs : P.underlying src = some (.slice e)) (he : P.underlying e = some (.int .u8)) (hd : P.underlying dst = some .string) (h : Rds w A n 1 (l.map (Value.int .u8))) :
    (convert src dst (.slice A n c)).run P w = .ok (.string (strOfNums l)) w := by
  cases A with
  | none =>
    have h0 := h.nil rfl
    have hl := h.len
    subst h0
    obtain rfl : l = [] := List.eq_nil_of_length_eq_zero (by simpa using hl)
    rw [run_convert_bytes_nil w src e hs he 0 c dst hd]
    rfl
  | some ad =>
    have hl : (loadCells ad n).run P w = .ok (l.map (Value.int .u8)).toArray w := by
      have := loadCells_list (P := P) (w := w) (ad := ad) (l.map (Value.int .u8)) 0 #[] (fun j u hj => by rw [Nat.zero_add]; exact h.at_ ad rfl j u hj)
      rw [h.len, Nat.mul_one] at this
      simpa [loadCells] using this
    rw [run_convert_bytes_string w src dst e _ n c hs he hd, run_bytesToString w ad n c l hl, foldl_push_bytes]
    simp [strOfNums, ByteArray.empty, ByteArray.emptyWithCapacity]
    rfl
theorem WL.bstr {src dst e : TypeId} {A : Option Addr} {n c : Nat} (l : List Int) (hs : P.underlying src = some (.slice e)) (he : P.underlying e = some (.int .u8)) (hdt : P.underlying dst = some .string) (hw : Wd ops m g = some true) (hd : d < N) (hx : ev m x = some (.slice A n c)) (hr : ∀ w, I E H w → Rds w A n 1 (l.map (Value.int .u8)))
    (h : WL P E N ops Q ((d, .string (strOfNums l)) :: m) H rest) : WL P E N ops Q m H (⟨some d, .convert src dst x, ty, pos, af, g⟩ :: rest) :=
  WL.val _ hw hd (fun a w hF hI => by simp only [execOp, hF.eval hx]; simp [run_bstr hs he hdt (hr w hI)]) h
theorem run_seq (a b : ByteArray) (ht : P.underlying t = some .string) (w : World) : (do eqGuard .eql t x y (.string a) (.string b); binOp .eql t (.string a) (.string b) : Sem Value).run P w = .ok (.bool (a.toList == b.toList)) w := by
  simp only [binOp]
  simp [eqGuard, Op.stringOp]
theorem WL.seq (a b : ByteArray) (ht : P.underlying t = some .string) (hw : Wd ops m g = some true) (hd : d < N) (hx : ev m x = some (.string a)) (hy : ev m y = some (.string b)) (h : WL P E N ops Q ((d, .bool (a.toList == b.toList)) :: m) H rest) : WL P E N ops Q m H (⟨some d, .binOp .eql t x y t2, ty, pos, af, g⟩ :: rest) :=
  WL.bin _ _ _ hw hd hx hy (run_seq a b ht) h
end
section
variable {P : Program} {E : Env} {N : Nat} {m : List (Nat × Value)} {H : List Ck} {Q : Exit → Act → World → Prop}
/-- What follows is shown once, from the states that the first part may leave. -/
theorem WC.cut {σ : Type} {x y : Code} (mf : σ → List (Nat × Value)) (Hf : σ → List Ck) (ok : σ → Prop) (h2 : ∀ s, ok s → WC P E N Q (mf s) (Hf s) y)
    (h1 : WC P E N (Exit.then (fun a w => ∃ s, ok s ∧ Fr N (mf s) a ∧ I E (Hf s) w) Q) m H x) : WC P E N Q m H (.seq x y) := fun a w hF hI =>
  wp_seq (wp_mono (h1 a w hF hI) (fun e a' w' hq => by
    cases e with
    | normal => obtain ⟨s, hs, hF', hI'⟩ := hq; exact h2 s hs a' w' hF' hI'
    | exit id => exact hq
    | goto l => exact hq
    | ret => exact hq
    | panic ch => exact hq
    | outgrown => exact hq))
theorem QE.cut {σ : Type} {mf : σ → List (Nat × Value)} {Hf : σ → List Ck} {ok : σ → Prop} (s : σ) (hs : ok s) (hm : Sub m (mf s)) (hH : (Hf s).Sublist H) : QE E N (Exit.then (fun a w => ∃ s, ok s ∧ Fr N (mf s) a ∧ I E (Hf s) w) Q) .normal m H :=
  fun a w hF hI => ⟨s, hs, hF.less hm.spec, hI.sub hH⟩
/-- An operation whose guard was not carried out itself. -/
theorem WL.offu {ops : Array Oper} {rest : List Oper} {op : Op} {ty : TypeId} {pos : String} {af : Array Edge} {i : Nat} {b : Bool} {d : Nat} (hs : ((ops[i]?).bind (·.dst)).bind (lk m) = some undef) (hd : d < N)
    (h : WL P E N ops Q ((d, undef) :: m) H rest) : WL P E N ops Q m H (⟨some d, op, ty, pos, af, some (i, b)⟩ :: rest) := fun a w hF hI =>
  wpList_off (by
    obtain ⟨s, h1, h2⟩ := Option.bind_eq_some_iff.1 hs
    have : yielded ops a.tmps i = none := by
      unfold yielded
      rw [h1, Option.bind_some, hF.get s _ h2]
      rfl
    simp [Region.wanted, this]) (h _ _ (hF.put hd undef) hI)
end
end Go.Proofs.Ytalafklnnohlgaa.X
