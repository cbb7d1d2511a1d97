/- The references' leaves: mask, begun. Conditions: numbers in their ranges. -/
import Derived.Test.YtalafklnnohlgaaCod19
namespace Go.Proofs.Ytalafklnnohlgaa.Cod
open Go.RowKit X Go.Proofs.YtalafklnnohlgaaW.PrintLast
open Oct hiding agg39 size39
set_option linter.unusedVariables false
set_option linter.unusedSimpArgs false

def mk8 (x y : Int) : List Int := beB 4 (IntKind.u64.wrap x) ++ beB 4 (IntKind.u64.wrap y)
set_option maxHeartbeats 4000000 in
set_option maxRecDepth 100000 in
theorem mask_ref (x y : Int) : Con Try.prog 78 #[.agg #[.int .u32 x, .int .u32 y]] [] (fun _ => True) (fun v H' => ∃ A c, v = .slice A (mk8 x y).length c ∧ H' = [.row (.slice A (mk8 x y).length c) 5 1 (mk8 x y).length (b8 (mk8 x y))]) := by
  refine Con.intro Try.func78 rfl Try.ntmps78 rfl (fun w _ => ?_)
  repeat (first | refine WC.seq ?_ | refine WC.region ?_)
  refine WL.box _ [.int .u32 x, .int .u32 y] rfl (by decide) rfl rfl (fun b1 => ?_)
  repeat (first | refine WC.seq ?_ | refine WL.assign _ rfl (by decide) rfl ?_)
  refine WC.draw 10 #[false, false, false, false, false, false, false, false, false, false] [.blk b1 [.int .u32 x, .int .u32 y] 31] [8] (by kernel_rfl) rfl rfl (by repeat (first | exact List.Sublist.refl _ | exact List.nil_sublist _ | refine List.Sublist.cons_cons _ ?_ | refine List.Sublist.cons _ ?_)) ?_
  refine WA.faddr 0 #[true, false, false, false, false, false, false, false, false, false] _ _ rfl (fa31_0 _ _) rfl rfl (by decide) (by kernel_rfl) (by repeat (first | with_reducible refine Qp.then ?_ | with_reducible refine Qp.blk ?_ | with_reducible exact Qp.body)) ?_
  refine WA.load 1 #[true, true, false, false, false, false, false, false, false, false] 0 _ _ _ _ _ rfl rfl (by decide) (by repeat (first | exact List.Sublist.refl _ | exact List.nil_sublist _ | refine List.Sublist.cons_cons _ ?_ | refine List.Sublist.cons _ ?_)) (by kernel_rfl) (by repeat (first | with_reducible refine Qp.then ?_ | with_reducible refine Qp.blk ?_ | with_reducible exact Qp.body)) rfl agg29 rfl rfl ?_
  refine WA.conv 2 #[true, true, true, false, false, false, false, false, false, false] _ _ rfl (run_conv _ _ _ Try.underlying29 Try.underlying53) rfl rfl (by decide) (by kernel_rfl) (by repeat (first | with_reducible refine Qp.then ?_ | with_reducible refine Qp.blk ?_ | with_reducible exact Qp.body)) ?_
  refine WA.faddr 4 #[true, true, true, false, true, false, false, false, false, false] _ _ rfl (fa31_1 _ _) rfl rfl (by decide) (by kernel_rfl) (by repeat (first | with_reducible refine Qp.then ?_ | with_reducible refine Qp.blk ?_ | with_reducible exact Qp.body)) ?_
  refine WA.load 5 #[true, true, true, false, true, true, false, false, false, false] 0 _ _ _ _ _ rfl rfl (by decide) (by repeat (first | exact List.Sublist.refl _ | exact List.nil_sublist _ | refine List.Sublist.cons_cons _ ?_ | refine List.Sublist.cons _ ?_)) (by kernel_rfl) (by repeat (first | with_reducible refine Qp.then ?_ | with_reducible refine Qp.blk ?_ | with_reducible exact Qp.body)) rfl agg29 rfl rfl ?_
  refine WA.conv 6 #[true, true, true, false, true, true, true, false, false, false] _ _ rfl (run_conv _ _ _ Try.underlying29 Try.underlying53) rfl rfl (by decide) (by kernel_rfl) (by repeat (first | with_reducible refine Qp.then ?_ | with_reducible refine Qp.blk ?_ | with_reducible exact Qp.body)) ?_
  refine WA.call 3 #[true, true, true, true, true, true, true, false, false, false] [] [] [.int .u64 (IntKind.u64.wrap x), .int .i64 4] _ [] _ (number_con (IntKind.u64.wrap x) 4 (by decide)) rfl rfl (by decide) (by kernel_rfl) rfl rfl Try.func57 rfl rfl rfl rfl (.refl _) (fun _ _ => trivial) ?_
  rintro v H1 ⟨A1, c1, rfl, rfl⟩
  rw [List.cons_append, List.nil_append]
  refine ⟨(by repeat (first | exact List.Sublist.refl _ | exact List.nil_sublist _ | refine List.Sublist.cons_cons _ ?_ | refine List.Sublist.cons _ ?_)), ?_⟩
  refine WA.call 7 #[true, true, true, true, true, true, true, true, false, false] [] [] [.int .u64 (IntKind.u64.wrap y), .int .i64 4] _ [] _ (number_con (IntKind.u64.wrap y) 4 (by decide)) rfl rfl (by decide) (by kernel_rfl) rfl rfl Try.func57 rfl rfl rfl rfl (.refl _) (fun _ _ => trivial) ?_
  rintro v H1 ⟨A2, c2, rfl, rfl⟩
  rw [List.cons_append, List.nil_append]
  refine ⟨(by repeat (first | exact List.Sublist.refl _ | exact List.nil_sublist _ | refine List.Sublist.cons_cons _ ?_ | refine List.Sublist.cons _ ?_)), ?_⟩
  refine WA.append 8 #[true, true, true, true, true, true, true, true, true, false] 1 5 1 1 (beB 4 (IntKind.u64.wrap x)).length (beB 4 (IntKind.u64.wrap y)).length c2 (.int .u8 0) _ A2 (b8 (beB 4 (IntKind.u64.wrap x))) (b8 (beB 4 (IntKind.u64.wrap y))) rfl rfl (by decide) (by kernel_rfl) rfl rfl rfl Try.underlying39 info5 rfl (by decide) rfl (fun w hI => row_reads hI (i := 0) rfl) (b8_one _) (by rw [beB_len, beB_len]; decide) (by rw [beB_len, beB_len]; decide) (fun A3 c3 => ?_)
  refine WA.assign 9 #[true, true, true, true, true, true, true, true, true, true] _ rfl rfl rfl (by decide) (by kernel_rfl) (by repeat (first | with_reducible refine Qp.then ?_ | with_reducible refine Qp.blk ?_ | with_reducible exact Qp.body)) ?_
  refine WA.done (by kernel_rfl) ?_
  repeat (refine WC.ret ?_)
  have e1 : (mk8 x y).length = (beB 4 (IntKind.u64.wrap x)).length + (beB 4 (IntKind.u64.wrap y)).length := by simp [mk8]
  have e2 : b8 (mk8 x y) = b8 (beB 4 (IntKind.u64.wrap x)) ++ b8 (beB 4 (IntKind.u64.wrap y)) := by simp [b8, mk8]
  rw [e1, e2]
  exact QE.ret1 _ [_] rfl rfl (.cons _ (.cons_cons _ (List.nil_sublist _))) ⟨A3, c3, rfl, rfl⟩
/-- An event of a kind and a sub-kind, nothing else in it. -/
def bgE (k s : Int) : Ev := ⟨if k = 1 then upd (upd zeroEv.n 0 k) 1 s else if k = 2 then upd (upd zeroEv.n 0 k) 15 s else upd zeroEv.n 0 k, [], []⟩
set_option maxHeartbeats 4000000 in
set_option maxRecDepth 100000 in
theorem begun_con (k s : Int) : Con Try.prog 74 #[.int .i64 k, .int .i64 s] [] (fun _ => True) (same (evV (bgE k s) none 0 none 0) []) := by
  refine Con.intro Try.func74 rfl Try.ntmps74 rfl (fun w _ => ?_)
  repeat (first | refine WC.seq ?_ | refine WC.region ?_)
  refine WL.alloc zeroA (evC zeroEv.n (.slice none 0 0) (.slice none 0 0)) rfl (by decide) zero37 rfl (fun g4 => ?_)
  repeat (first | refine WC.seq ?_ | refine WC.region ?_ | refine WL.move _ rfl (by decide) rfl ?_)
  refine WL.build [(0, .int .i64 k)] (.agg (evC (upd zeroEv.n 0 k) (.slice none 0 0) (.slice none 0 0)).toArray) rfl (by decide) rfl (fun w => by kernel_rfl) ?_
  refine WL.alloc zeroA (evC zeroEv.n (.slice none 0 0) (.slice none 0 0)) rfl (by decide) zero37 rfl (fun g5 => ?_)
  refine WL.st37 0 (cs' := evC (upd zeroEv.n 0 k) (.slice none 0 0) (.slice none 0 0)) rfl rfl rfl rfl rfl rfl rfl rfl rfl ?_
  repeat (first | refine WC.seq ?_ | refine WC.region ?_ | refine WL.nil ?_ | with_reducible refine QE.then_n ?_ | refine WL.move _ rfl (by decide) rfl ?_ | refine WL.bin _ _ _ rfl (by decide) rfl rfl (fun _ => rfl) ?_)
  refine WC.cond _ rfl (fun h => ?_) (fun h => ?_)
  · have h : k = 1 := of_decide_eq_true h
    subst h
    repeat (first | refine WC.seq ?_ | refine WC.region ?_ | refine WC.skip ?_ | refine WC.ret ?_ | refine WL.nil ?_ | with_reducible refine QE.then_n ?_ | refine WC.cond_f rfl ?_ | refine WL.move _ rfl (by decide) rfl ?_ | refine WL.bin _ _ _ rfl (by decide) rfl rfl (fun _ => rfl) ?_ | refine WL.fd33_0 rfl (by decide) rfl ?_ | refine WL.fd37_1 rfl (by decide) rfl ?_ | refine WL.ld37 0 rfl (by decide) rfl rfl rfl rfl ?_ | refine WL.st3 0 rfl rfl rfl rfl rfl rfl rfl rfl rfl ?_ | refine WL.st37 1 rfl rfl rfl rfl rfl rfl rfl rfl rfl ?_)
    exact QE.retc1 1 g4 29 (evC (bgE 1 s).n (.slice none 0 0) (.slice none 0 0)) 37 [] rfl agg37 size37 rfl rfl rfl (List.nil_sublist _) ⟨rfl, rfl⟩
  have h : ¬ k = 1 := of_decide_eq_false h
  repeat (first | refine WC.seq ?_ | refine WC.region ?_ | refine WC.skip ?_ | refine WL.nil ?_ | with_reducible refine QE.then_n ?_ | refine WL.move _ rfl (by decide) rfl ?_ | refine WL.bin _ _ _ rfl (by decide) rfl rfl (fun _ => rfl) ?_)
  refine WC.cond _ rfl (fun h2 => ?_) (fun h2 => ?_)
  · have h2 : k = 2 := of_decide_eq_true h2
    subst h2
    repeat (first | refine WC.seq ?_ | refine WC.region ?_ | refine WC.ret ?_ | refine WL.move _ rfl (by decide) rfl ?_ | refine WL.fd35_0 rfl (by decide) rfl ?_ | refine WL.fd37_2 rfl (by decide) rfl ?_ | refine WL.ld37 0 rfl (by decide) rfl rfl rfl rfl ?_ | refine WL.st3 0 rfl rfl rfl rfl rfl rfl rfl rfl rfl ?_ | refine WL.st37 1 rfl rfl rfl rfl rfl rfl rfl rfl rfl ?_)
    exact QE.retc1 1 g4 29 (evC (bgE 2 s).n (.slice none 0 0) (.slice none 0 0)) 37 [] rfl agg37 size37 rfl rfl rfl (List.nil_sublist _) ⟨rfl, rfl⟩
  have h2 : ¬ k = 2 := of_decide_eq_false h2
  repeat (first | refine WC.seq ?_ | refine WC.region ?_ | refine WC.skip ?_ | refine WC.ret ?_ | refine WL.ld37 0 rfl (by decide) rfl rfl rfl rfl ?_ | refine WL.st37 1 rfl rfl rfl rfl rfl rfl rfl rfl rfl ?_)
  have e : bgE k s = ⟨upd zeroEv.n 0 k, [], []⟩ := by unfold bgE; rw [if_neg h, if_neg h2]
  rw [e]
  exact QE.retc1 1 g4 29 (evC (upd zeroEv.n 0 k) (.slice none 0 0) (.slice none 0 0)) 37 [] rfl agg37 size37 rfl rfl rfl (List.nil_sublist _) ⟨rfl, rfl⟩
end Go.Proofs.Ytalafklnnohlgaa.Cod
