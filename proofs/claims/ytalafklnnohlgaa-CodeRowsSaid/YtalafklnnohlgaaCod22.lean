/- The references' leaf Put. Condition: one of the letters. -/
import Derived.Test.YtalafklnnohlgaaCod20
namespace Go.Proofs.Ytalafklnnohlgaa.Cod
open Go.RowKit X Go.Proofs.YtalafklnnohlgaaW.PrintLast
open Oct hiding agg39 size39
set_option linter.unusedVariables false
set_option linter.unusedSimpArgs false

/-- A field set. -/
def setF (a : Ev) (f : Fd) (v : Int) : Ev :=
  match f with
  | .n j _ k => ⟨upd a.n j (if k = .u32 then IntKind.u32.wrap v else v), a.nums, a.mem⟩
  | .f j => ⟨upd a.n j (if v = 1 then 1 else 0), a.nums, a.mem⟩
  | .l _ => a
set_option maxHeartbeats 8000000 in
set_option maxRecDepth 100000 in
theorem put_con (a : Ev) (A6 A27 : Option Addr) (c6 c27 : Nat) (c v : Int) (hc : c ∈ lets) : Con Try.prog 76 #[evV a A6 c6 A27 c27, .int .u8 c, .int .i64 v] [] (fun _ => True) (same (evV (setF a (ltF c) v) A6 c6 A27 c27) []) := by
  simp only [lets, List.mem_cons, List.not_mem_nil, or_false] at hc
  rcases hc with rfl | rfl | rfl | rfl | rfl | rfl | rfl | rfl | rfl | rfl | rfl | rfl | rfl | rfl | rfl | rfl | rfl | rfl | rfl | rfl
  all_goals
    refine Con.intro Try.func76 rfl Try.ntmps76 rfl (fun w _ => ?_)
    unfold evV
    repeat (first | refine WC.seq ?_ | refine WC.region ?_)
    refine WL.box _ (evC a.n (.slice A6 a.nums.length c6) (.slice A27 a.mem.length c27)) rfl (by decide) rfl rfl (fun b1 => ?_)
    skip
    refine WL.alloc zeroA (evC zeroEv.n (.slice none 0 0) (.slice none 0 0)) rfl (by decide) zero37 rfl (fun g6 => ?_)
    repeat (first | refine WC.seq ?_ | refine WC.region ?_ | refine WC.block ?_ | refine WC.ret ?_ | refine WL.nil ?_ | with_reducible refine QE.then_n ?_ | refine WC.cond_t rfl ?_ | refine WC.cond_f rfl ?_ | refine WL.move _ rfl (by decide) rfl ?_ | refine WL.assign _ rfl (by decide) rfl ?_ | refine WL.bin _ _ _ rfl (by decide) rfl rfl (fun _ => rfl) ?_ | refine WL.fd27_0 rfl (by decide) rfl ?_ | refine WL.fd27_1 rfl (by decide) rfl ?_ | refine WL.fd27_2 rfl (by decide) rfl ?_ | refine WL.fd27_3 rfl (by decide) rfl ?_ | refine WL.fd33_1 rfl (by decide) rfl ?_ | refine WL.fd33_2 rfl (by decide) rfl ?_ | refine WL.fd33_3 rfl (by decide) rfl ?_ | refine WL.fd33_4 rfl (by decide) rfl ?_ | refine WL.fd33_6 rfl (by decide) rfl ?_ | refine WL.fd33_7 rfl (by decide) rfl ?_ | refine WL.fd33_8 rfl (by decide) rfl ?_ | refine WL.fd35_1 rfl (by decide) rfl ?_ | refine WL.fd35_2 rfl (by decide) rfl ?_ | refine WL.fd35_3 rfl (by decide) rfl ?_ | refine WL.fd35_4 rfl (by decide) rfl ?_ | refine WL.fd35_5 rfl (by decide) rfl ?_ | refine WL.fd35_6 rfl (by decide) rfl ?_ | refine WL.fd35_7 rfl (by decide) rfl ?_ | refine WL.fd35_8 rfl (by decide) rfl ?_ | refine WL.fd35_10 rfl (by decide) rfl ?_ | refine WL.fd37_1 rfl (by decide) rfl ?_ | refine WL.fd37_2 rfl (by decide) rfl ?_ | refine WL.fd37_3 rfl (by decide) rfl ?_ | refine WL.cv2_29 rfl (by decide) rfl ?_ | refine WL.ld37 1 rfl (by decide) rfl rfl rfl rfl ?_ | refine WL.st2 1 rfl rfl rfl rfl rfl rfl rfl rfl rfl ?_ | refine WL.st3 1 rfl rfl rfl rfl rfl rfl rfl rfl rfl ?_ | refine WL.st4 1 rfl rfl rfl rfl rfl rfl rfl rfl rfl ?_ | refine WL.st29 1 rfl rfl rfl rfl rfl rfl rfl rfl rfl ?_ | refine WL.st37 0 rfl rfl rfl rfl rfl rfl rfl rfl rfl ?_)
    first
    | exact QE.retc1 0 g6 29 (evC (setF a (ltF _) v).n (.slice A6 a.nums.length c6) (.slice A27 a.mem.length c27)) 37 [] rfl agg37 size37 rfl rfl rfl (List.nil_sublist _) ⟨rfl, rfl⟩
    | skip
  have e : (v == 1) = ((if v = 1 then (1 : Int) else 0) == 1) := by by_cases h : v = 1 <;> simp [h]
  rw [e]
  exact QE.retc1 0 g6 29 (evC (setF a (ltF 102) v).n (.slice A6 a.nums.length c6) (.slice A27 a.mem.length c27)) 37 [] rfl agg37 size37 rfl rfl rfl (List.nil_sublist _) ⟨rfl, rfl⟩
end Go.Proofs.Ytalafklnnohlgaa.Cod
