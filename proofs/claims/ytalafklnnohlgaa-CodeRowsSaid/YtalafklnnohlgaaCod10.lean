/- code's Same: two events are one where all that counts is the same. No condition. -/
import Derived.Test.YtalafklnnohlgaaCod9
import Derived.Test.YtalafklnnohlgaaX14
import Derived.Laws.StructEq
namespace Go.Proofs.Ytalafklnnohlgaa.Cod
open Go.RowKit X Go.Proofs.YtalafklnnohlgaaW.PrintLast
open Oct hiding agg39 size39
set_option linter.unusedVariables false
set_option linter.unusedSimpArgs false

section
variable {P : Program} {d : Nat} {xs ys : Array Value} {f : Field} {fs : List Field} {a b : Value} {r s : Bool} {w : World}
theorem sq_nil : (Op.eqFields d xs ys []).run P w = .ok true w := by simp [Op.eqFields]
theorem sq_cons (hn : (f.name == "_") = false) (ha : (part f.type xs f.offset).run P w = .ok a w) (hb : (part f.type ys f.offset).run P w = .ok b w) (he : (Op.equalIn d f.type a b).run P w = .ok r w) (hr : (Op.eqFields d xs ys fs).run P w = .ok s w) : (Op.eqFields d xs ys (f :: fs)).run P w = .ok (r && s) w := by
  have hn' : f.name ≠ "_" := by simpa using hn
  rw [Op.eqFields]
  simp only [if_pos hn', Sem.run_bind, ha, hb, he, Result.andThen_ok]
  cases r
  · simp
  · simpa using hr
theorem sq_of {t : TypeId} {fs : Array Field} (hu : P.underlying t = some (.struct fs)) (hp : P.stoodInHeld t = false) (h : (Op.eqFields d xs ys fs.toList).run P w = .ok r w) : (Op.equalIn (d + 1) t (.agg xs) (.agg ys)).run P w = .ok r w := by
  have hf : P.fieldsOf t = fs := by simp [Program.fieldsOf, hu]
  rw [run_equalIn_struct (P := P) w d t xs ys (by rw [hf]; exact hu) hp, hf]
  exact h
theorem run_eqs {t : TypeId} {x y : Operand} (hm : P.eqGuardType P.depth t = false) (h : (Op.equalIn 10000 t (.agg xs) (.agg ys)).run P w = .ok r w) : (do eqGuard .eql t x y (.agg xs) (.agg ys); binOp .eql t (.agg xs) (.agg ys) : Sem Value).run P w = .ok (.bool r) w := by
  rw [Sem.run_bind, run_eqGuard_agg w .eql t x y xs ys hm, Result.andThen_ok, run_eql_struct w t xs ys, h, Result.andThen_ok]
end
theorem eqI (d : Nat) (t : TypeId) (k k' : IntKind) (a b : Int) (w : World) (h : Try.prog.underlying t = some (.int k')) : (Op.equalIn (d + 1) t (.int k a) (.int k b)).run Try.prog w = .ok (a == b) w := run_equalIn_int w d t k k' a b h
theorem eq31 (a0 a1 b0 b1 : Int) (x y : Operand) (w : World) : (do eqGuard .eql 31 x y (.agg #[.int .u32 a0, .int .u32 a1]) (.agg #[.int .u32 b0, .int .u32 b1]); binOp .eql 31 (.agg #[.int .u32 a0, .int .u32 a1]) (.agg #[.int .u32 b0, .int .u32 b1]) : Sem Value).run Try.prog w = .ok (.bool (a0 == b0 && a1 == b1)) w := by
  rw [show (a0 == b0 && a1 == b1) = (a0 == b0 && (a1 == b1 && true)) by simp only [Bool.and_true]]
  exact run_eqs (by kernel_rfl) (sq_of (d := 9999) Try.underlying31 (by kernel_rfl) (sq_cons rfl (by kernel_rfl) (by kernel_rfl) (eqI 9998 29 .u32 _ _ _ w Try.underlying29) (sq_cons rfl (by kernel_rfl) (by kernel_rfl) (eqI 9998 29 .u32 _ _ _ w Try.underlying29) sq_nil)))
theorem eq27 (a0 a1 a2 a3 b0 b1 b2 b3 : Int) (x y : Operand) (w : World) : (do eqGuard .eql 27 x y (.agg #[.int .i64 a0, .int .i64 a1, .int .i64 a2, .int .i64 a3]) (.agg #[.int .i64 b0, .int .i64 b1, .int .i64 b2, .int .i64 b3]); binOp .eql 27 (.agg #[.int .i64 a0, .int .i64 a1, .int .i64 a2, .int .i64 a3]) (.agg #[.int .i64 b0, .int .i64 b1, .int .i64 b2, .int .i64 b3]) : Sem Value).run Try.prog w = .ok (.bool (a0 == b0 && (a1 == b1 && (a2 == b2 && a3 == b3)))) w := by
  rw [show (a0 == b0 && (a1 == b1 && (a2 == b2 && a3 == b3))) = (a0 == b0 && (a1 == b1 && (a2 == b2 && (a3 == b3 && true)))) by simp only [Bool.and_true]]
  exact run_eqs (by kernel_rfl) (sq_of (d := 9999) Try.underlying27 (by kernel_rfl) (sq_cons rfl (by kernel_rfl) (by kernel_rfl) (eqI 9998 3 .i64 _ _ _ w Try.underlying3) (sq_cons rfl (by kernel_rfl) (by kernel_rfl) (eqI 9998 3 .i64 _ _ _ w Try.underlying3) (sq_cons rfl (by kernel_rfl) (by kernel_rfl) (eqI 9998 3 .i64 _ _ _ w Try.underlying3) (sq_cons rfl (by kernel_rfl) (by kernel_rfl) (eqI 9998 3 .i64 _ _ _ w Try.underlying3) sq_nil)))))

set_option maxRecDepth 100000 in
theorem equal_con (A B : Option Addr) (c k : Nat) (x y : List Int) (hx : x.length ≤ maxLen) (hy : y.length ≤ maxLen) :
    Con Try.prog 63 #[.slice A x.length c, .slice B y.length k] [] (fun w => Rds w A x.length 1 (i64s x) ∧ Rds w B y.length 1 (i64s y)) (same (.bool (decide (x = y))) []) := by
  simp only [maxLen] at hx hy
  refine Con.intro Try.func63 rfl Try.ntmps63 rfl (fun w hR => ?_)
  repeat (first | refine WC.seq ?_ | refine WC.region ?_ | refine WL.nil ?_ | with_reducible refine QE.then_n ?_ | refine WL.move _ rfl (by decide) rfl ?_ | refine WL.assign _ rfl (by decide) rfl ?_ | refine WL.bin _ _ _ rfl (by decide) rfl rfl (fun _ => rfl) ?_ | refine WL.ln25 rfl (by decide) rfl ?_)
  refine WC.cond _ rfl (fun hb => ?_) (fun hb => ?_)
  · repeat (first | refine WC.seq ?_ | refine WC.region ?_ | refine WC.ret ?_ | with_reducible refine QE.then_r ?_ | refine WL.assign _ rfl (by decide) rfl ?_)
    refine QE.ret1 _ _ rfl rfl (.refl _) ⟨?_, rfl⟩
    have : x ≠ y := by rintro rfl; simp at hb
    simp [this]
  have hl : x.length = y.length := by simp at hb; omega
  repeat (first | refine WC.seq ?_ | refine WC.region ?_ | refine WC.block ?_ | refine WC.skip ?_ | refine WL.move _ rfl (by decide) rfl ?_ | refine WL.ln25 rfl (by decide) rfl ?_)
  refine WC.loop (σ := Nat) (fun i => [(13, .int .i64 i), (12, .int .i64 x.length), (0, .slice A x.length c), (1, .slice B y.length k)]) (fun _ => []) (fun i => i ≤ x.length ∧ x.take i = y.take i) (fun i => x.length - i) 0 ⟨Nat.zero_le _, rfl⟩ (.cons rfl (.cons rfl (.cons rfl (.cons rfl .nil)))) (.refl _) ?_
  rintro i ⟨h1, h2⟩
  repeat (first | refine WC.seq ?_ | refine WC.region ?_ | refine WL.bin _ _ _ rfl (by decide) rfl rfl (fun _ => rfl) ?_)
  refine WC.cond _ rfl (fun hb => ?_) (fun hb => ?_)
  · have hb : (i : Int) < x.length := of_decide_eq_true hb
    obtain ⟨u, hu⟩ : ∃ u, x[i]? = some u := ⟨_, List.getElem?_eq_getElem (by omega)⟩
    obtain ⟨v, hv⟩ : ∃ v, y[i]? = some v := ⟨_, List.getElem?_eq_getElem (by omega)⟩
    cases A with
    | none => have := hR.1.nil rfl; omega
    | some ad =>
    cases B with
    | none => have := hR.2.nil rfl; omega
    | some bd =>
    repeat (first | refine WC.seq ?_ | refine WC.region ?_ | refine WC.block ?_ | refine WC.skip ?_ | refine WL.move _ rfl (by decide) rfl ?_ | refine WL.assign _ rfl (by decide) rfl ?_)
    refine WC.draw 9 #[false, false, false, false, false, false, false, false, false] [] [] (by kernel_rfl) rfl rfl (by repeat (first | exact List.Sublist.refl _ | exact List.nil_sublist _ | refine List.Sublist.cons_cons _ ?_ | refine List.Sublist.cons _ ?_)) ?_
    refine WA.move 0 #[true, false, false, false, false, false, false, false, false] _ rfl rfl rfl (by decide) (by kernel_rfl) (by repeat (first | with_reducible refine Qp.then ?_ | with_reducible refine Qp.blk ?_ | with_reducible exact Qp.body)) ?_
    refine WA.move 1 #[true, true, false, false, false, false, false, false, false] _ rfl rfl rfl (by decide) (by kernel_rfl) (by repeat (first | with_reducible refine Qp.then ?_ | with_reducible refine Qp.blk ?_ | with_reducible exact Qp.body)) ?_
    refine WA.idx 2 #[true, true, true, false, false, false, false, false, false] 3 1 x.length c .i64 ad (i : Int) Try.underlying25 size3 (by omega) hb rfl rfl rfl rfl (by decide) (by kernel_rfl) (by repeat (first | with_reducible refine Qp.then ?_ | with_reducible refine Qp.blk ?_ | with_reducible exact Qp.body)) ?_
    refine WA.load1 3 #[true, true, true, true, false, false, false, false, false] (ad.add ((i : Int).toNat * 1)) (.int .i64 u) rfl rfl (by decide) (List.nil_sublist _) (by kernel_rfl) (by repeat (first | with_reducible refine Qp.then ?_ | with_reducible refine Qp.blk ?_ | with_reducible exact Qp.body)) rfl agg3 (fun w hS => (Oct.kept0 hR.1 hS.2 rfl).cell rfl (i64s_at hu)) ?_
    refine WA.move 4 #[true, true, true, true, true, false, false, false, false] _ rfl rfl rfl (by decide) (by kernel_rfl) (by repeat (first | with_reducible refine Qp.then ?_ | with_reducible refine Qp.blk ?_ | with_reducible exact Qp.body)) ?_
    refine WA.move 5 #[true, true, true, true, true, true, false, false, false] _ rfl rfl rfl (by decide) (by kernel_rfl) (by repeat (first | with_reducible refine Qp.then ?_ | with_reducible refine Qp.blk ?_ | with_reducible exact Qp.body)) ?_
    refine WA.idx 6 #[true, true, true, true, true, true, true, false, false] 3 1 y.length k .i64 bd (i : Int) Try.underlying25 size3 (by omega) (by omega) rfl rfl rfl rfl (by decide) (by kernel_rfl) (by repeat (first | with_reducible refine Qp.then ?_ | with_reducible refine Qp.blk ?_ | with_reducible exact Qp.body)) ?_
    refine WA.load1 7 #[true, true, true, true, true, true, true, true, false] (bd.add ((i : Int).toNat * 1)) (.int .i64 v) rfl rfl (by decide) (List.nil_sublist _) (by kernel_rfl) (by repeat (first | with_reducible refine Qp.then ?_ | with_reducible refine Qp.blk ?_ | with_reducible exact Qp.body)) rfl agg3 (fun w hS => (Oct.kept0 hR.2 hS.2 rfl).cell rfl (i64s_at hv)) ?_
    refine WA.bin 8 #[true, true, true, true, true, true, true, true, true] _ _ _ rfl rfl (fun _ => rfl) rfl rfl (by decide) (by kernel_rfl) (by repeat (first | with_reducible refine Qp.then ?_ | with_reducible refine Qp.blk ?_ | with_reducible exact Qp.body)) ?_
    refine WA.done (by kernel_rfl) ?_
    repeat (with_reducible refine QE.then_n ?_)
    refine WC.cond _ rfl (fun hb2 => ?_) (fun hb2 => ?_)
    · repeat (first | refine WC.seq ?_ | refine WC.region ?_ | refine WC.ret ?_ | with_reducible refine QE.then_r ?_ | with_reducible refine QE.blk_r ?_ | refine WL.assign _ rfl (by decide) rfl ?_)
      refine QE.ret1 _ _ rfl rfl (.refl _) ⟨?_, rfl⟩
      have : x ≠ y := by rintro rfl; rw [hu] at hv; cases hv; simp at hb2
      simp [this]
    · repeat (first | refine WC.region ?_ | refine WC.skip ?_ | refine WL.nil ?_ | refine WL.move _ rfl (by decide) rfl ?_ | refine WL.bin _ _ _ rfl (by decide) rfl rfl (fun _ => rfl) ?_)
      have huv : u = v := by simpa using hb2
      refine QE.round (i + 1) ⟨by omega, ?_⟩ (by omega) (.eq rfl (by congr 1; rw [wr_i64 (by omega) (by omega)]; simp) (.cons rfl (.cons rfl (.cons rfl .nil)))) (.refl _)
      rw [List.take_add_one, List.take_add_one, hu, hv, h2, huv]
  · have hb : ¬ (i : Int) < x.length := of_decide_eq_false hb
    repeat (first | refine WC.seq ?_ | refine WC.region ?_ | refine WC.exit ?_ | refine WC.ret ?_ | refine WL.assign _ rfl (by decide) rfl ?_)
    refine QE.ret1 _ _ rfl rfl (.refl _) ⟨?_, rfl⟩
    have : x = y := by rw [List.take_of_length_le (by omega), List.take_of_length_le (by omega)] at h2; exact h2
    simp [this]

end Go.Proofs.Ytalafklnnohlgaa.Cod
