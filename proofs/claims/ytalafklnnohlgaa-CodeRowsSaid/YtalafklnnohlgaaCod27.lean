/- The references' Same: two events are one where all that counts is the same. Conditions: the sets are in their range. -/
import Derived.Test.YtalafklnnohlgaaCod20
import Derived.Test.YtalafklnnohlgaaX15
namespace Go.Proofs.Ytalafklnnohlgaa.Cod
open Go.RowKit X Go.Proofs.YtalafklnnohlgaaW.PrintLast
open Oct hiding agg39 size39
set_option linter.unusedVariables false
set_option linter.unusedSimpArgs false

theorem ne31 (a0 a1 b0 b1 : Int) (x y : Operand) (w : World) : (do eqGuard .neq 31 x y (.agg #[.int .u32 a0, .int .u32 a1]) (.agg #[.int .u32 b0, .int .u32 b1]); binOp .neq 31 (.agg #[.int .u32 a0, .int .u32 a1]) (.agg #[.int .u32 b0, .int .u32 b1]) : Sem Value).run Try.prog w = .ok (.bool (!(a0 == b0 && a1 == b1))) w := by
  have h : (Op.equalIn 10000 31 (.agg #[.int .u32 a0, .int .u32 a1]) (.agg #[.int .u32 b0, .int .u32 b1])).run Try.prog w = .ok (a0 == b0 && (a1 == b1 && true)) w :=
    sq_of (d := 9999) Try.underlying31 (by kernel_rfl) (sq_cons rfl (by kernel_rfl) (by kernel_rfl) (eqI 9998 29 .u32 _ _ _ w Try.underlying29) (sq_cons rfl (by kernel_rfl) (by kernel_rfl) (eqI 9998 29 .u32 _ _ _ w Try.underlying29) sq_nil))
  have hm : Try.prog.eqGuardType Try.prog.depth 31 = false := by kernel_rfl
  rw [show (a0 == b0 && a1 == b1) = (a0 == b0 && (a1 == b1 && true)) by simp only [Bool.and_true]]
  rw [Sem.run_bind, run_eqGuard_agg (w := w) .neq 31 x y _ _ hm, Result.andThen_ok, run_neq_struct (w := w) 31 _ _, h, Result.andThen_ok]
theorem dec_lets : ∀ i : Fin 20, Utf8.decode (strOfNums lets) i = ((lets.getD i 0).toNat, 1) := by decide +kernel
theorem lets_rg {c : Int} (h : c ∈ lets) : 0 ≤ c ∧ c < 256 := by
  simp only [lets, List.mem_cons, List.not_mem_nil, or_false] at h
  omega
def g26 (a : Ev) : Prop := 0 ≤ a.n 26 ∧ a.n 26 < 4294967296
theorem lets_same {a b : Ev} (ha : g26 a) (hb : g26 b) (h : ∀ c ∈ lets, gtF a (ltF c) = gtF b (ltF c)) : (∀ j ∈ [9, 10, 11, 12, 2, 3, 4, 7, 8, 28, 16, 22, 23, 20, 17, 18, 26, 21, 19], a.n j = b.n j) ∧ (a.n 5 = 1 ↔ b.n 5 = 1) := by
  unfold g26 at ha hb
  refine ⟨fun j hj => ?_, ?_⟩
  · simp only [List.mem_cons, List.not_mem_nil, or_false] at hj
    rcases hj with rfl | rfl | rfl | rfl | rfl | rfl | rfl | rfl | rfl | rfl | rfl | rfl | rfl | rfl | rfl | rfl | rfl | rfl | rfl
    · exact h 100 (by decide)
    · exact h 119 (by decide)
    · exact h 99 (by decide)
    · exact h 113 (by decide)
    · exact h 118 (by decide)
    · exact h 112 (by decide)
    · exact h 111 (by decide)
    · exact h 97 (by decide)
    · exact h 101 (by decide)
    · exact h 116 (by decide)
    · exact h 68 (by decide)
    · exact h 87 (by decide)
    · exact h 67 (by decide)
    · exact h 80 (by decide)
    · exact h 86 (by decide)
    · exact h 71 (by decide)
    · have := h 83 (by decide)
      have e : IntKind.i64.wrap (a.n 26) = IntKind.i64.wrap (b.n 26) := this
      rwa [X.wr_i64 (by omega) (by omega), X.wr_i64 (by omega) (by omega)] at e
    · exact h 73 (by decide)
    · exact h 85 (by decide)
  · have := h 102 (by decide)
    have e : (if a.n 5 = 1 then (1 : Int) else 0) = if b.n 5 = 1 then 1 else 0 := this
    by_cases h1 : a.n 5 = 1 <;> by_cases h2 : b.n 5 = 1 <;> simp [h1, h2] at e ⊢
theorem agree_lets {a b : Ev} (h : Agree a b) : ∀ c ∈ lets, gtF a (ltF c) = gtF b (ltF c) := by
  intro c hc
  simp only [lets, List.mem_cons, List.not_mem_nil, or_false] at hc
  have k := h.1
  rcases hc with rfl | rfl | rfl | rfl | rfl | rfl | rfl | rfl | rfl | rfl | rfl | rfl | rfl | rfl | rfl | rfl | rfl | rfl | rfl | rfl
  · exact k 9 (by decide)
  · exact k 10 (by decide)
  · exact k 11 (by decide)
  · exact k 12 (by decide)
  · exact k 2 (by decide)
  · exact k 3 (by decide)
  · exact k 4 (by decide)
  · show (if a.n 5 = 1 then (1 : Int) else 0) = if b.n 5 = 1 then 1 else 0
    have := h.2.1
    by_cases h1 : a.n 5 = 1
    · rw [if_pos h1, if_pos (this.1 h1)]
    · rw [if_neg h1, if_neg (fun h2 => h1 (this.2 h2))]
  · exact k 7 (by decide)
  · exact k 8 (by decide)
  · exact k 28 (by decide)
  · exact k 16 (by decide)
  · exact k 22 (by decide)
  · exact k 23 (by decide)
  · exact k 20 (by decide)
  · exact k 17 (by decide)
  · exact k 18 (by decide)
  · exact congrArg IntKind.i64.wrap (k 26 (by decide))
  · exact k 21 (by decide)
  · exact k 19 (by decide)
set_option maxHeartbeats 8000000 in
set_option maxRecDepth 100000 in
theorem sameR_con (a b : Ev) (A6 A27 B6 B27 : Option Addr) (c6 c27 k6 k27 : Nat) (ha : a.nums.length ≤ maxLen ∧ a.mem.length ≤ maxLen) (hb : b.nums.length ≤ maxLen ∧ b.mem.length ≤ maxLen) (ga : g26 a) (gb : g26 b) :
    Con Try.prog 50 #[evV a A6 c6 A27 c27, evV b B6 k6 B27 k27] [] (fun w => EvRd w a A6 A27 ∧ EvRd w b B6 B27) (same (.bool (sameE a b)) []) := by
  have hno : ¬ Agree a b → sameE a b = false := fun h => by
    cases hs : sameE a b with
    | false => rfl
    | true => exact absurd ((same_iff a b).1 hs) h
  refine Con.intro Try.func50 rfl Try.ntmps50 rfl (fun w hR => ?_)
  unfold evV
  repeat (first | refine WC.seq ?_ | refine WC.region ?_)
  refine WL.box _ (evC a.n (.slice A6 a.nums.length c6) (.slice A27 a.mem.length c27)) rfl (by decide) rfl rfl (fun gA => ?_)
  refine WL.box _ (evC b.n (.slice B6 b.nums.length k6) (.slice B27 b.mem.length k27)) rfl (by decide) rfl rfl (fun gB => ?_)
  repeat (first | refine WC.seq ?_ | refine WC.region ?_ | refine WL.assign _ rfl (by decide) rfl ?_)
  refine WL.range (strOfNums lets) Try.underlying9 rfl (by decide) rfl (fun rg => ?_)
  repeat (refine WC.block ?_)
  refine WC.loop (σ := Nat) (fun i => [(7, .pointer (some ⟨rg, 0, none⟩)), (2, .pointer (some ⟨gA, 0, none⟩)), (3, .pointer (some ⟨gB, 0, none⟩))]) (fun i => [.obj rg (.stringIter (strOfNums lets) i), .blk gB (evC b.n (.slice B6 b.nums.length k6) (.slice B27 b.mem.length k27)) 37, .blk gA (evC a.n (.slice A6 a.nums.length c6) (.slice A27 a.mem.length c27)) 37]) (fun i => i ≤ 20 ∧ ∀ c ∈ lets.take i, gtF a (ltF c) = gtF b (ltF c)) (fun i => 20 - i) 0 ⟨Nat.zero_le _, fun _ h => by cases h⟩ (.cons rfl (.cons rfl (.cons rfl .nil))) (.refl _) ?_
  rintro i ⟨h1, h2⟩
  repeat (first | refine WC.seq ?_ | refine WC.region ?_)
  rcases Nat.lt_or_ge i 20 with hlt | hge
  · obtain ⟨cc, hcc⟩ : ∃ cc, lets[i]? = some cc := ⟨_, List.getElem?_eq_getElem hlt⟩
    have hcm := List.mem_of_getElem? hcc
    have hcr := lets_rg hcm
    have hdec := dec_lets ⟨i, hlt⟩
    rw [List.getD_eq_getElem?_getD, show lets[(⟨i, hlt⟩ : Fin 20).val]? = some cc from hcc] at hdec
    refine WL.next 0 rg (strOfNums lets) i cc.toNat 1 rfl (by decide) rfl rfl (by rw [strOfNums_size]; exact hlt) hdec ?_
    repeat (first | refine WC.seq ?_ | refine WC.region ?_ | refine WC.block ?_ | refine WC.skip ?_ | refine WC.cond_t rfl ?_ | refine WL.assign _ rfl (by decide) rfl ?_ | refine WL.extract _ _ rfl (by decide) rfl (fun _ => rfl) ?_)
    refine WC.draw 9 #[false, false, false, false, false, false, false, false, false] [.blk gB (evC b.n (.slice B6 b.nums.length k6) (.slice B27 b.mem.length k27)) 37, .blk gA (evC a.n (.slice A6 a.nums.length c6) (.slice A27 a.mem.length c27)) 37] [] (by kernel_rfl) rfl rfl (by repeat (first | exact List.Sublist.refl _ | exact List.nil_sublist _ | refine List.Sublist.cons_cons _ ?_ | refine List.Sublist.cons _ ?_)) ?_
    refine WA.loadA 0 #[true, false, false, false, false, false, false, false, false] 1 gA 0 29 _ _ 37 rfl rfl (by decide) (by repeat (first | exact List.Sublist.refl _ | exact List.nil_sublist _ | refine List.Sublist.cons_cons _ ?_ | refine List.Sublist.cons _ ?_)) (by kernel_rfl) (by repeat (first | with_reducible refine Qp.then ?_ | with_reducible refine Qp.blk ?_ | with_reducible exact Qp.body)) rfl agg37 size37 rfl rfl rfl ?_
    refine WA.move 1 #[true, true, false, false, false, false, false, false, false] _ rfl rfl rfl (by decide) (by kernel_rfl) (by repeat (first | with_reducible refine Qp.then ?_ | with_reducible refine Qp.blk ?_ | with_reducible exact Qp.body)) ?_
    refine WA.conv 2 #[true, true, true, false, false, false, false, false, false] _ _ rfl (run_conv _ _ _ Try.underlying21 Try.underlying5) rfl rfl (by decide) (by kernel_rfl) (by repeat (first | with_reducible refine Qp.then ?_ | with_reducible refine Qp.blk ?_ | with_reducible exact Qp.body)) ?_
    refine WA.know (.int .u8 cc) (s := 13) rfl (congrArg _ (by rw [wr_u8]; omega)) ?_
    refine WA.loadA 4 #[true, true, true, false, true, false, false, false, false] 0 gB 0 29 _ _ 37 rfl rfl (by decide) (by repeat (first | exact List.Sublist.refl _ | exact List.nil_sublist _ | refine List.Sublist.cons_cons _ ?_ | refine List.Sublist.cons _ ?_)) (by kernel_rfl) (by repeat (first | with_reducible refine Qp.then ?_ | with_reducible refine Qp.blk ?_ | with_reducible exact Qp.body)) rfl agg37 size37 rfl rfl rfl ?_
    refine WA.move 5 #[true, true, true, false, true, true, false, false, false] _ rfl rfl rfl (by decide) (by kernel_rfl) (by repeat (first | with_reducible refine Qp.then ?_ | with_reducible refine Qp.blk ?_ | with_reducible exact Qp.body)) ?_
    refine WA.conv 6 #[true, true, true, false, true, true, true, false, false] _ _ rfl (run_conv _ _ _ Try.underlying21 Try.underlying5) rfl rfl (by decide) (by kernel_rfl) (by repeat (first | with_reducible refine Qp.then ?_ | with_reducible refine Qp.blk ?_ | with_reducible exact Qp.body)) ?_
    refine WA.know (.int .u8 cc) (s := 17) rfl (congrArg _ (by rw [wr_u8]; omega)) ?_
    refine WA.call 3 #[true, true, true, true, true, true, true, false, false] [] [] [evV a A6 c6 A27 c27, .int .u8 cc] _ [] _ (get_con a A6 A27 c6 c27 cc hcm) rfl rfl (by decide) (by kernel_rfl) rfl rfl Try.func70 rfl rfl rfl rfl (.refl _) (fun _ _ => trivial) ?_
    rintro v H1 ⟨rfl, rfl⟩
    rw [List.nil_append]
    refine ⟨(by repeat (first | exact List.Sublist.refl _ | exact List.nil_sublist _ | refine List.Sublist.cons_cons _ ?_ | refine List.Sublist.cons _ ?_)), ?_⟩
    refine WA.call 7 #[true, true, true, true, true, true, true, true, false] [] [] [evV b B6 k6 B27 k27, .int .u8 cc] _ [] _ (get_con b B6 B27 k6 k27 cc hcm) rfl rfl (by decide) (by kernel_rfl) rfl rfl Try.func70 rfl rfl rfl rfl (.refl _) (fun _ _ => trivial) ?_
    rintro v H1 ⟨rfl, rfl⟩
    rw [List.nil_append]
    refine ⟨(by repeat (first | exact List.Sublist.refl _ | exact List.nil_sublist _ | refine List.Sublist.cons_cons _ ?_ | refine List.Sublist.cons _ ?_)), ?_⟩
    refine WA.bin 8 #[true, true, true, true, true, true, true, true, true] _ _ _ rfl rfl (fun _ => rfl) rfl rfl (by decide) (by kernel_rfl) (by repeat (first | with_reducible refine Qp.then ?_ | with_reducible refine Qp.blk ?_ | with_reducible exact Qp.body)) ?_
    refine WA.done (by kernel_rfl) ?_
    repeat (with_reducible refine QE.then_n ?_)
    refine WC.cond _ rfl (fun hb => ?_) (fun hb => ?_)
    · have hb : gtF a (ltF cc) ≠ gtF b (ltF cc) := by simpa using hb
      repeat (first | refine WC.seq ?_ | refine WC.region ?_ | refine WC.ret ?_ | with_reducible refine QE.then_r ?_ | with_reducible refine QE.blk_r ?_ | refine WL.assign _ rfl (by decide) rfl ?_)
      exact QE.ret1 _ _ rfl rfl (List.nil_sublist _) ⟨congrArg Value.bool (hno (fun h => hb (agree_lets h cc hcm))).symm, rfl⟩
    · have hb : gtF a (ltF cc) = gtF b (ltF cc) := by simpa using hb
      repeat (first | refine WC.skip ?_ | with_reducible refine QE.blk_n ?_)
      refine QE.round (i + 1) ⟨hlt, fun q hq => ?_⟩ (by omega) (.cons rfl (.cons rfl (.cons rfl .nil))) (.refl _)
      rw [List.take_add_one, hcc] at hq
      rcases List.mem_append.1 hq with hq | hq
      · exact h2 q hq
      · simp at hq; subst hq; exact hb
  · obtain rfl : i = 20 := by omega
    obtain ⟨hl1, hl2⟩ := lets_same ga gb h2
    refine WL.nexte 0 rg (strOfNums lets) 20 rfl (by decide) rfl rfl (by rw [strOfNums_size]; decide) ?_
    repeat (first | refine WC.seq ?_ | refine WC.region ?_ | refine WC.exit ?_ | refine WC.cond_f rfl ?_ | refine WL.move _ rfl (by decide) rfl ?_ | refine WL.bin _ _ _ rfl (by decide) rfl rfl (fun _ => rfl) ?_ | refine WL.extract _ _ rfl (by decide) rfl (fun _ => rfl) ?_ | refine WL.fd37_0 rfl (by decide) rfl ?_ | refine WL.ld3 1 rfl (by decide) rfl rfl rfl ?_ | refine WL.ld3 2 rfl (by decide) rfl rfl rfl ?_)
    refine WL.split 25 _ rfl (fun k0 => ?_) (fun k0 => ?_)
    · have k0 : a.n 0 ≠ b.n 0 := by simpa using k0
      repeat (first | refine WC.seq ?_ | refine WC.region ?_ | refine WC.ret ?_ | refine WL.nil ?_ | with_reducible refine QE.then_n ?_ | with_reducible refine QE.then_r ?_ | refine WC.cond_t rfl ?_ | refine WL.move _ rfl (by decide) rfl ?_ | refine WL.assign _ rfl (by decide) rfl ?_ | refine WL.off rfl (by decide) ?_ | refine WL.pick _ _ rfl (by decide) rfl rfl ?_)
      exact QE.ret1 _ _ rfl rfl (List.nil_sublist _) ⟨congrArg Value.bool (hno (fun h => k0 (h.1 0 (by decide)))).symm, rfl⟩
    have k0 : a.n 0 = b.n 0 := by simpa using k0
    repeat (first | refine WL.move _ rfl (by decide) rfl ?_ | refine WL.bin _ _ _ rfl (by decide) rfl rfl (fun _ => rfl) ?_ | refine WL.pick _ _ rfl (by decide) rfl rfl ?_ | refine WL.fd33_0 rfl (by decide) rfl ?_ | refine WL.fd37_1 rfl (by decide) rfl ?_ | refine WL.ld3 1 rfl (by decide) rfl rfl rfl ?_ | refine WL.ld3 2 rfl (by decide) rfl rfl rfl ?_)
    refine WL.split 34 _ rfl (fun k1 => ?_) (fun k1 => ?_)
    · have k1 : a.n 1 ≠ b.n 1 := by simpa using k1
      repeat (first | refine WC.seq ?_ | refine WC.region ?_ | refine WC.ret ?_ | refine WL.nil ?_ | with_reducible refine QE.then_n ?_ | with_reducible refine QE.then_r ?_ | refine WC.cond_t rfl ?_ | refine WL.move _ rfl (by decide) rfl ?_ | refine WL.assign _ rfl (by decide) rfl ?_ | refine WL.off rfl (by decide) ?_ | refine WL.pick _ _ rfl (by decide) rfl rfl ?_)
      exact QE.ret1 _ _ rfl rfl (List.nil_sublist _) ⟨congrArg Value.bool (hno (fun h => k1 (h.1 1 (by decide)))).symm, rfl⟩
    have k1 : a.n 1 = b.n 1 := by simpa using k1
    repeat (first | refine WL.move _ rfl (by decide) rfl ?_ | refine WL.bin _ _ _ rfl (by decide) rfl rfl (fun _ => rfl) ?_ | refine WL.pick _ _ rfl (by decide) rfl rfl ?_ | refine WL.fd35_0 rfl (by decide) rfl ?_ | refine WL.fd37_2 rfl (by decide) rfl ?_ | refine WL.ld3 1 rfl (by decide) rfl rfl rfl ?_ | refine WL.ld3 2 rfl (by decide) rfl rfl rfl ?_)
    refine WL.split 43 _ rfl (fun k2 => ?_) (fun k2 => ?_)
    · have k2 : a.n 15 ≠ b.n 15 := by simpa using k2
      repeat (first | refine WC.seq ?_ | refine WC.region ?_ | refine WC.ret ?_ | refine WL.nil ?_ | with_reducible refine QE.then_n ?_ | with_reducible refine QE.then_r ?_ | refine WC.cond_t rfl ?_ | refine WL.move _ rfl (by decide) rfl ?_ | refine WL.assign _ rfl (by decide) rfl ?_ | refine WL.off rfl (by decide) ?_ | refine WL.pick _ _ rfl (by decide) rfl rfl ?_)
      exact QE.ret1 _ _ rfl rfl (List.nil_sublist _) ⟨congrArg Value.bool (hno (fun h => k2 (h.1 15 (by decide)))).symm, rfl⟩
    have k2 : a.n 15 = b.n 15 := by simpa using k2
    repeat (first | refine WL.fd33_9 rfl (by decide) rfl ?_ | refine WL.fd37_1 rfl (by decide) rfl ?_ | refine WL.ld31 1 rfl (by decide) rfl rfl rfl rfl ?_ | refine WL.ld31 2 rfl (by decide) rfl rfl rfl rfl ?_)
    refine WL.bin _ _ _ rfl (by decide) rfl rfl (ne31 _ _ _ _ _ _) ?_
    repeat (first | refine WL.move _ rfl (by decide) rfl ?_ | refine WL.pick _ _ rfl (by decide) rfl rfl ?_)
    refine WL.split 52 _ rfl (fun k3 => ?_) (fun k3 => ?_)
    · have k3 : ¬ (a.n 13 = b.n 13 ∧ a.n 14 = b.n 14) := fun h => by simp [h.1, h.2] at k3
      repeat (first | refine WC.seq ?_ | refine WC.region ?_ | refine WC.ret ?_ | refine WL.nil ?_ | with_reducible refine QE.then_n ?_ | with_reducible refine QE.then_r ?_ | refine WC.cond_t rfl ?_ | refine WL.assign _ rfl (by decide) rfl ?_ | refine WL.off rfl (by decide) ?_ | refine WL.pick _ _ rfl (by decide) rfl rfl ?_)
      exact QE.ret1 _ _ rfl rfl (List.nil_sublist _) ⟨congrArg Value.bool (hno (fun h => k3 ⟨h.1 13 (by decide), h.1 14 (by decide)⟩)).symm, rfl⟩
    have k3 : a.n 13 = b.n 13 ∧ a.n 14 = b.n 14 := by simpa using k3
    repeat (first | refine WL.fd35_9 rfl (by decide) rfl ?_ | refine WL.fd37_2 rfl (by decide) rfl ?_ | refine WL.ld31 1 rfl (by decide) rfl rfl rfl rfl ?_ | refine WL.ld31 2 rfl (by decide) rfl rfl rfl rfl ?_)
    refine WL.bin _ _ _ rfl (by decide) rfl rfl (ne31 _ _ _ _ _ _) ?_
    repeat (first | refine WL.nil ?_ | with_reducible refine QE.then_n ?_ | refine WL.pick _ _ rfl (by decide) rfl rfl ?_)
    refine WC.cond _ rfl (fun k4 => ?_) (fun k4 => ?_)
    · have k4 : ¬ (a.n 24 = b.n 24 ∧ a.n 25 = b.n 25) := fun h => by simp [h.1, h.2] at k4
      repeat (first | refine WC.seq ?_ | refine WC.region ?_ | refine WC.ret ?_ | with_reducible refine QE.then_r ?_ | refine WL.assign _ rfl (by decide) rfl ?_)
      exact QE.ret1 _ _ rfl rfl (List.nil_sublist _) ⟨congrArg Value.bool (hno (fun h => k4 ⟨h.1 24 (by decide), h.1 25 (by decide)⟩)).symm, rfl⟩
    have k4 : a.n 24 = b.n 24 ∧ a.n 25 = b.n 25 := by simpa using k4
    have hag : a.nums = b.nums → a.mem = b.mem → sameE a b = true := fun h5 h6 => (same_iff a b).2 ⟨fun j hj => by
      by_cases hm : j ∈ [9, 10, 11, 12, 2, 3, 4, 7, 8, 28, 16, 22, 23, 20, 17, 18, 26, 21, 19]
      · exact hl1 j hm
      · simp only [cmpJ, List.mem_cons, List.not_mem_nil, or_false] at hj
        rcases hj with rfl | rfl | rfl | rfl | rfl | rfl | rfl | rfl | rfl | rfl | rfl | rfl | rfl | rfl | rfl | rfl | rfl | rfl | rfl | rfl | rfl | rfl | rfl | rfl | rfl | rfl
        all_goals first | exact k0 | exact k1 | exact k2 | exact k3.1 | exact k3.2 | exact k4.1 | exact k4.2 | exact absurd (by decide) hm, hl2, h5, h6⟩
    repeat (first | refine WC.seq ?_ | refine WC.region ?_ | refine WC.skip ?_ | refine WL.fd33_5 rfl (by decide) rfl ?_ | refine WL.fd37_1 rfl (by decide) rfl ?_ | refine WL.ld25 1 rfl (by decide) rfl rfl rfl ?_ | refine WL.ld25 2 rfl (by decide) rfl rfl rfl ?_)
    refine WL.call [] [] [.slice A6 a.nums.length c6, .slice B6 b.nums.length k6] _ [] _ (sints_con A6 B6 c6 k6 a.nums b.nums ha.1 hb.1) rfl (by decide) rfl Try.func71 rfl rfl rfl rfl (.refl _) (fun w hI => ⟨Oct.kept0 hR.1.1 hI.kp rfl, Oct.kept0 hR.2.1 hI.kp rfl⟩) ?_
    rintro v H1 ⟨rfl, rfl⟩
    rw [List.nil_append]
    repeat (refine WL.move _ rfl (by decide) rfl ?_)
    refine WL.split 68 _ rfl (fun k5 => ?_) (fun k5 => ?_)
    · have k5 : a.nums = b.nums := of_decide_eq_true k5
      repeat (first | refine WL.fd35_11 rfl (by decide) rfl ?_ | refine WL.fd37_2 rfl (by decide) rfl ?_ | refine WL.ld25 1 rfl (by decide) rfl rfl rfl ?_ | refine WL.ld25 2 rfl (by decide) rfl rfl rfl ?_)
      refine WL.call [] [] [.slice A27 a.mem.length c27, .slice B27 b.mem.length k27] _ [] _ (sints_con A27 B27 c27 k27 a.mem b.mem ha.2 hb.2) rfl (by decide) rfl Try.func71 rfl rfl rfl rfl (.refl _) (fun w hI => ⟨Oct.kept0 hR.1.2 hI.kp rfl, Oct.kept0 hR.2.2 hI.kp rfl⟩) ?_
      rintro v H1 ⟨rfl, rfl⟩
      rw [List.nil_append]
      repeat (first | refine WC.ret ?_ | refine WL.assign _ rfl (by decide) rfl ?_ | refine WL.pick _ _ rfl (by decide) rfl rfl ?_)
      refine QE.ret1 _ _ rfl rfl (List.nil_sublist _) ⟨congrArg Value.bool ?_, rfl⟩
      by_cases k6 : a.mem = b.mem
      · rw [hag k5 k6]; exact decide_eq_true k6
      · rw [hno (fun h => k6 h.2.2.2)]; exact decide_eq_false k6
    · have k5 : a.nums ≠ b.nums := of_decide_eq_false k5
      repeat (first | refine WC.ret ?_ | refine WL.assign _ rfl (by decide) rfl ?_ | refine WL.off rfl (by decide) ?_ | refine WL.pick _ _ rfl (by decide) rfl rfl ?_)
      exact QE.ret1 _ _ rfl rfl (List.nil_sublist _) ⟨congrArg Value.bool (hno (fun h => k5 h.2.2.1)).symm, rfl⟩
end Go.Proofs.Ytalafklnnohlgaa.Cod
