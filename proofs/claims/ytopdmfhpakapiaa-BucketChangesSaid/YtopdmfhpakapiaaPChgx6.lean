/- By a program of this session (ownprint.py): functions of the Go program as plain Lean functions, and that a call comes to their answer. Conditions: those that each theorem names. -/
import Derived.Test.YtopdmfhpakapiaaPChgx0
import Derived.Test.YtopdmfhpakapiaaPChgx1
import Derived.Test.YtopdmfhpakapiaaPChgx4
import Derived.Test.YtopdmfhpakapiaaPChgx5
namespace Go.Proofs.Ytopdmfhpakapiaa.PChg
open Go.RowKit Go.Proofs.YtopdmfhpakapiaaW.PrintWords Go.Proofs.YtopdmfhpakapiaaW.PrintLast Go.Proofs.YtopdmfhpakapiaaW.PrintMore
open OwnFn
attribute [local go_sem] max2_int min2_int max_two min_two max_three min_three max_four min_four   -- for this text's walks alone
set_option linter.unusedVariables false
set_option linter.unusedSimpArgs false

attribute [local go_sem high] eqA23
/-! ### mainsheetlaw11_BucketChanges: function 8 -/
mutual
def mainsheetlaw11_BucketChanges.j0 : Nat → Int → Bool → Int → Int → Int → Int → Int → Option (Bool)
 | 0, _, _, _, _, _, _, _ => none
 | k + 1, x1, x7, x173000, x173001, x174000, x174001, x174002 => (bucket_New.f k x1).bind fun bt175 => ((bucket_Change.f k x173000 x173001 x1).bind fun bt179 => (if (x7 != (bt175.2.2 == 0)) = true then (mainsheetlaw11_BucketChanges.j1 k x1 x7 bt179.2.2 true x173000 x173001 x174000 x174001 x174002 bt179.1 bt179.2.1) else (if x7 = true then ((mainsheetref11_Change.f 0 0 x1).bind fun bt183 => (if (!(bt175.1 == bt183.1) || (!(bt175.2.1 == bt183.2))) = true then (mainsheetlaw11_BucketChanges.j1 k x1 x7 bt179.2.2 true x173000 x173001 x174000 x174001 x174002 bt179.1 bt179.2.1) else (mainsheetlaw11_BucketChanges.j1 k x1 x7 bt179.2.2 false x173000 x173001 x174000 x174001 x174002 bt179.1 bt179.2.1))) else (if (!(bt175.1 == 0) || (!(bt175.2.1 == 0))) = true then (mainsheetlaw11_BucketChanges.j1 k x1 x7 bt179.2.2 true x173000 x173001 x174000 x174001 x174002 bt179.1 bt179.2.1) else (mainsheetlaw11_BucketChanges.j1 k x1 x7 bt179.2.2 (bt175.2.2 != 2) x173000 x173001 x174000 x174001 x174002 bt179.1 bt179.2.1)))))
def mainsheetlaw11_BucketChanges.j1 : Nat → Int → Bool → Int → Bool → Int → Int → Int → Int → Int → Int → Int → Option (Bool)
 | 0, _, _, _, _, _, _, _, _, _, _, _ => none
 | k + 1, x1, x7, x11, x59, x173000, x173001, x174000, x174001, x174002, x183000, x183001 => if x59 = true then (some false) else ((mainsheetref11_Right.f k x173000 x173001).bind fun t185 => (if t185 = true then (if x7 = true then (if x11 = 0 then ((mainsheetref11_Change.f x173000 x173001 x1).bind fun bt186 => (if (!(x183000 == bt186.1) || (!(x183001 == bt186.2))) = true then (some false) else (mainsheetlaw11_BucketChanges.j2 k x1 x174000 x174001 x174002))) else (some false)) else (if x11 = 2 then (if (!(x183000 == 0) || (!(x183001 == 0))) = true then (some false) else (mainsheetlaw11_BucketChanges.j2 k x1 x174000 x174001 x174002)) else (some false))) else (if x11 = 210 then (if (!(x183000 == 0) || (!(x183001 == 0))) = true then (some false) else (mainsheetlaw11_BucketChanges.j2 k x1 x174000 x174001 x174002)) else (some false))))
def mainsheetlaw11_BucketChanges.j2 : Nat → Int → Int → Int → Int → Option (Bool)
 | 0, _, _, _, _ => none
 | k + 1, x1, x174000, x174001, x174002 => (bucket_Bound.f k x1 x174000 x174001 x174002).bind fun bt188 => (if x1 < 1 then (if bt188.1 = 0 then (some (bt188.2 == 2)) else (some false)) else (if x1 > 800 then (if bt188.1 = 0 then (some (bt188.2 == 2)) else (some false)) else (if x174000 < 0 then (if bt188.1 = 0 then (some (bt188.2 == 2)) else (some false)) else (if x174000 > 1125899906842624 then (if bt188.1 = 0 then (some (bt188.2 == 2)) else (some false)) else (if x174001 < 0 then (if bt188.1 = 0 then (some (bt188.2 == 2)) else (some false)) else (if x174001 > 10000000 then (if bt188.1 = 0 then (some (bt188.2 == 2)) else (some false)) else (if x174002 < 0 then (if bt188.1 = 0 then (some (bt188.2 == 2)) else (some false)) else (if x174002 > 8 then (if bt188.1 = 0 then (some (bt188.2 == 2)) else (some false)) else (if bt188.2 = 0 then ((mainsheetref11_Depth.f x1).bind fun t190 => (some (bt188.1 == (wrap64 ((wrap64 ((wrap64 (x1 * x174000)) + t190)) + (wrap64 ((wrap64 (100 * x174002)) * x174001))))))) else (some false))))))))))
end
def mainsheetlaw11_BucketChanges.f (k : Nat) (a0_0 : Int) (a0_1 : Int) (a1 : Int) (a2_0 : Int) (a2_1 : Int) (a2_2 : Int) : Option (Bool) := (mainsheetlaw11_wakes.f k).bind fun t174 => (if t174 = true then (if a1 ≥ 0 then (mainsheetlaw11_BucketChanges.j0 k a1 (decide (a1 ≤ 800)) a0_0 a0_1 a2_0 a2_1 a2_2) else (mainsheetlaw11_BucketChanges.j0 k a1 false a0_0 a0_1 a2_0 a2_1 a2_2)) else (some false))
theorem mainsheetlaw11_BucketChanges.mono_l : ∀ k, (∀ y0 y1 y2 y3 y4 y5 y6, LeO (mainsheetlaw11_BucketChanges.j0 k y0 y1 y2 y3 y4 y5 y6) (mainsheetlaw11_BucketChanges.j0 (k + 1) y0 y1 y2 y3 y4 y5 y6)) ∧ (∀ y0 y1 y2 y3 y4 y5 y6 y7 y8 y9 y10, LeO (mainsheetlaw11_BucketChanges.j1 k y0 y1 y2 y3 y4 y5 y6 y7 y8 y9 y10) (mainsheetlaw11_BucketChanges.j1 (k + 1) y0 y1 y2 y3 y4 y5 y6 y7 y8 y9 y10)) ∧ (∀ y0 y1 y2 y3, LeO (mainsheetlaw11_BucketChanges.j2 k y0 y1 y2 y3) (mainsheetlaw11_BucketChanges.j2 (k + 1) y0 y1 y2 y3))
 | 0 => ⟨fun _ _ _ _ _ _ _ r h => by simp [mainsheetlaw11_BucketChanges.j0] at h, fun _ _ _ _ _ _ _ _ _ _ _ r h => by simp [mainsheetlaw11_BucketChanges.j1] at h, fun _ _ _ _ r h => by simp [mainsheetlaw11_BucketChanges.j2] at h⟩
 | k + 1 => by
  obtain ⟨ih0, ih1, ih2⟩ := mainsheetlaw11_BucketChanges.mono_l k
  refine ⟨?_, ?_, ?_⟩
  ·intro y0 y1 y2 y3 y4 y5 y6
   unfold mainsheetlaw11_BucketChanges.j0
   repeat' first
   | (with_reducible exact ih0 _ _ _ _ _ _ _)
   | (with_reducible exact ih1 _ _ _ _ _ _ _ _ _ _ _)
   | (with_reducible exact ih2 _ _ _ _)
   | (with_reducible exact bucket_Bound.mono _ _ _ _ _)
   | (with_reducible exact bucket_Change.mono _ _ _ _)
   | (with_reducible exact bucket_New.mono _ _)
   | (with_reducible exact mainsheetlaw11_wakes.mono _)
   | (with_reducible exact mainsheetref11_Right.mono _ _ _)
   | (with_reducible exact LeO.refl _)
   | (with_reducible exact LeO.none _)
   | (with_reducible refine LeO.ite ?_ ?_)
   | (with_reducible refine LeO.bind ?_ (fun _ => ?_))
   | exact ih0 _ _ _ _ _ _ _
   | exact ih1 _ _ _ _ _ _ _ _ _ _ _
   | exact ih2 _ _ _ _
   | exact bucket_Bound.mono _ _ _ _ _
   | exact bucket_Change.mono _ _ _ _
   | exact bucket_New.mono _ _
   | exact mainsheetlaw11_wakes.mono _
   | exact mainsheetref11_Right.mono _ _ _
   | exact LeO.none _
   | refine LeO.ite ?_ ?_
   | refine LeO.bind ?_ (fun _ => ?_)
  ·intro y0 y1 y2 y3 y4 y5 y6 y7 y8 y9 y10
   unfold mainsheetlaw11_BucketChanges.j1
   repeat' first
   | (with_reducible exact ih0 _ _ _ _ _ _ _)
   | (with_reducible exact ih1 _ _ _ _ _ _ _ _ _ _ _)
   | (with_reducible exact ih2 _ _ _ _)
   | (with_reducible exact bucket_Bound.mono _ _ _ _ _)
   | (with_reducible exact bucket_Change.mono _ _ _ _)
   | (with_reducible exact bucket_New.mono _ _)
   | (with_reducible exact mainsheetlaw11_wakes.mono _)
   | (with_reducible exact mainsheetref11_Right.mono _ _ _)
   | (with_reducible exact LeO.refl _)
   | (with_reducible exact LeO.none _)
   | (with_reducible refine LeO.ite ?_ ?_)
   | (with_reducible refine LeO.bind ?_ (fun _ => ?_))
   | exact ih0 _ _ _ _ _ _ _
   | exact ih1 _ _ _ _ _ _ _ _ _ _ _
   | exact ih2 _ _ _ _
   | exact bucket_Bound.mono _ _ _ _ _
   | exact bucket_Change.mono _ _ _ _
   | exact bucket_New.mono _ _
   | exact mainsheetlaw11_wakes.mono _
   | exact mainsheetref11_Right.mono _ _ _
   | exact LeO.none _
   | refine LeO.ite ?_ ?_
   | refine LeO.bind ?_ (fun _ => ?_)
  ·intro y0 y1 y2 y3
   unfold mainsheetlaw11_BucketChanges.j2
   repeat' first
   | (with_reducible exact ih0 _ _ _ _ _ _ _)
   | (with_reducible exact ih1 _ _ _ _ _ _ _ _ _ _ _)
   | (with_reducible exact ih2 _ _ _ _)
   | (with_reducible exact bucket_Bound.mono _ _ _ _ _)
   | (with_reducible exact bucket_Change.mono _ _ _ _)
   | (with_reducible exact bucket_New.mono _ _)
   | (with_reducible exact mainsheetlaw11_wakes.mono _)
   | (with_reducible exact mainsheetref11_Right.mono _ _ _)
   | (with_reducible exact LeO.refl _)
   | (with_reducible exact LeO.none _)
   | (with_reducible refine LeO.ite ?_ ?_)
   | (with_reducible refine LeO.bind ?_ (fun _ => ?_))
   | exact ih0 _ _ _ _ _ _ _
   | exact ih1 _ _ _ _ _ _ _ _ _ _ _
   | exact ih2 _ _ _ _
   | exact bucket_Bound.mono _ _ _ _ _
   | exact bucket_Change.mono _ _ _ _
   | exact bucket_New.mono _ _
   | exact mainsheetlaw11_wakes.mono _
   | exact mainsheetref11_Right.mono _ _ _
   | exact LeO.none _
   | refine LeO.ite ?_ ?_
   | refine LeO.bind ?_ (fun _ => ?_)
theorem mainsheetlaw11_BucketChanges.mono : ∀ a0 a1 a2 a3 a4 a5 k, LeO (mainsheetlaw11_BucketChanges.f k a0 a1 a2 a3 a4 a5) (mainsheetlaw11_BucketChanges.f (k + 1) a0 a1 a2 a3 a4 a5) := by
 intro a0 a1 a2 a3 a4 a5 k
 obtain ⟨ih0, ih1, ih2⟩ := mainsheetlaw11_BucketChanges.mono_l k
 unfold mainsheetlaw11_BucketChanges.f
 repeat' first
   | (with_reducible exact ih0 _ _ _ _ _ _ _)
   | (with_reducible exact ih1 _ _ _ _ _ _ _ _ _ _ _)
   | (with_reducible exact ih2 _ _ _ _)
   | (with_reducible exact bucket_Bound.mono _ _ _ _ _)
   | (with_reducible exact bucket_Change.mono _ _ _ _)
   | (with_reducible exact bucket_New.mono _ _)
   | (with_reducible exact mainsheetlaw11_wakes.mono _)
   | (with_reducible exact mainsheetref11_Right.mono _ _ _)
   | (with_reducible exact LeO.refl _)
   | (with_reducible exact LeO.none _)
   | (with_reducible refine LeO.ite ?_ ?_)
   | (with_reducible refine LeO.bind ?_ (fun _ => ?_))
   | exact ih0 _ _ _ _ _ _ _
   | exact ih1 _ _ _ _ _ _ _ _ _ _ _
   | exact ih2 _ _ _ _
   | exact bucket_Bound.mono _ _ _ _ _
   | exact bucket_Change.mono _ _ _ _
   | exact bucket_New.mono _ _
   | exact mainsheetlaw11_wakes.mono _
   | exact mainsheetref11_Right.mono _ _ _
   | exact LeO.none _
   | refine LeO.ite ?_ ?_
   | refine LeO.bind ?_ (fun _ => ?_)
def mainsheetlaw11_BucketChanges.T6 : Bool × List (List Nat × List Nat) := (true, [([], []), ([], []), ([1], [1]), ([0, 2], [0, 2]), ([3], [3]), ([4], [4]), ([5, 4, 4], [4, 5]), ([6], [6]), ([6], [6]), ([6], [6]), ([8, 9, 6, 6], [6, 8, 9]), ([7, 10, 6], [6, 7, 10]), ([6, 11, 4], [4, 6, 11]), ([4, 12], [4, 12]), ([13, 10], [13]), ([14], [14]), ([15, 14], [14, 15]), ([16, 14, 14], [14, 16]), ([17], [17]), ([17], [17]), ([18, 19, 17], [17, 18, 19]), ([20, 17, 17], [17, 20]), ([21], [21]), ([22, 21], [21, 22]), ([21, 23, 17], [17, 21, 23]), ([17, 24, 14], [14, 17, 24]), ([14, 25], [14, 25])])
def mainsheetlaw11_BucketChanges.B6 : List Nat := [0, 0, 2, 7, 15, 31, 63, 127, 127, 127, 895, 2047, 4095, 8191, 16383, 32767, 65535, 131071, 262143, 262143, 1048575, 2097151, 4194303, 8388607, 16777215, 33554431, 67108863]
theorem mainsheetlaw11_BucketChanges.tab6 : rtab .any (opsOf Try.f8 6) = mainsheetlaw11_BucketChanges.T6 := by kernel_rfl
theorem mainsheetlaw11_BucketChanges.bits6 : waitsOk mainsheetlaw11_BucketChanges.T6.2 mainsheetlaw11_BucketChanges.B6 = true := by kernel_rfl
def mainsheetlaw11_BucketChanges.T8 : Bool × List (List Nat × List Nat) := (true, [([], []), ([0], [0]), ([1], [1]), ([2], [2]), ([2], [2]), ([2], [2]), ([4, 5, 2, 2], [2, 4, 5]), ([3, 6, 2], [2, 3, 6]), ([2, 7], [2, 7])])
def mainsheetlaw11_BucketChanges.B8 : List Nat := [0, 1, 3, 7, 7, 7, 55, 127, 255]
theorem mainsheetlaw11_BucketChanges.tab8 : rtab .any (opsOf Try.f8 8) = mainsheetlaw11_BucketChanges.T8 := by kernel_rfl
theorem mainsheetlaw11_BucketChanges.bits8 : waitsOk mainsheetlaw11_BucketChanges.T8.2 mainsheetlaw11_BucketChanges.B8 = true := by kernel_rfl
def mainsheetlaw11_BucketChanges.T19 : Bool × List (List Nat × List Nat) := (true, [([], []), ([0], [0]), ([1], [1]), ([2], [2]), ([2], [2]), ([2], [2]), ([5, 2], [2, 5]), ([4, 6, 2], [2, 4, 6]), ([2], [2]), ([8, 2, 2], [2, 8]), ([7, 9, 2], [2, 7, 9]), ([2], [2]), ([11, 2], [2, 11]), ([12, 2], [2, 12]), ([2], [2]), ([14, 2], [2, 14]), ([13, 15, 2], [2, 13, 15]), ([10, 16, 2], [2, 10, 16]), ([3, 17, 2], [2, 3, 17]), ([2, 18], [2, 18]), ([19, 9, 0, 1, 2, 3, 4, 5, 6, 7, 8, 9, 10, 11, 12, 13, 14, 15, 16, 17, 18, 19], [19])])
def mainsheetlaw11_BucketChanges.B19 : List Nat := [0, 1, 3, 7, 7, 7, 39, 119, 7, 263, 1015, 7, 2055, 6151, 7, 16391, 63495, 131063, 262143, 524287, 1048575]
theorem mainsheetlaw11_BucketChanges.tab19 : rtab .any (opsOf Try.f8 19) = mainsheetlaw11_BucketChanges.T19 := by kernel_rfl
theorem mainsheetlaw11_BucketChanges.bits19 : waitsOk mainsheetlaw11_BucketChanges.T19.2 mainsheetlaw11_BucketChanges.B19 = true := by kernel_rfl
set_option maxHeartbeats 8000000 in
set_option maxRecDepth 100000 in
theorem mainsheetlaw11_BucketChanges.calls (k : Nat) (a0_0 : Int) (a0_1 : Int) (a1 : Int) (a2_0 : Int) (a2_1 : Int) (a2_2 : Int) (r : Bool) (w : World) (h : mainsheetlaw11_BucketChanges.f k a0_0 a0_1 a1 a2_0 a2_1 a2_2 = some r) :
  Calls Try.prog 8 #[.agg #[.int .i64 a0_0, .int .i64 a0_1], .int .i64 a1, .agg #[.int .i64 a2_0, .int .i64 a2_1, .int .i64 a2_2]] w fun e w' => e = .returned (.bool r) ∧ Below w.heap.size w w' := by
 have hu23 := Try.underlying23
 have hu33 := Try.underlying33
 have HB := Aside0.mk (Below.refl w.heap.size w)
 have H : ((mainsheetlaw11_wakes.f k).bind fun t174 => (if t174 = true then (if a1 ≥ 0 then (mainsheetlaw11_BucketChanges.j0 k a1 (decide (a1 ≤ 800)) a0_0 a0_1 a2_0 a2_1 a2_2) else (mainsheetlaw11_BucketChanges.j0 k a1 false a0_0 a0_1 a2_0 a2_1 a2_2)) else (some false))) = some r := h
 clear h
 replace H := Option.bind_eq_some_iff.mp H
 obtain ⟨t174, A40, H⟩ := H
 replace H : (if t174 = true then (if a1 ≥ 0 then (mainsheetlaw11_BucketChanges.j0 k a1 (decide (a1 ≤ 800)) a0_0 a0_1 a2_0 a2_1 a2_2) else (mainsheetlaw11_BucketChanges.j0 k a1 false a0_0 a0_1 a2_0 a2_1 a2_2)) else (some false)) = some r := H
 have A4 := Aside0.mk A40
 clear A40
 by_cases c5 : t174 = true
 ·subst c5
  have H1 : (if a1 ≥ 0 then (mainsheetlaw11_BucketChanges.j0 k a1 (decide (a1 ≤ 800)) a0_0 a0_1 a2_0 a2_1 a2_2) else (mainsheetlaw11_BucketChanges.j0 k a1 false a0_0 a0_1 a2_0 a2_1 a2_2)) = some r := by rw [if_pos rfl] at H; exact H
  clear H
  have H := H1
  clear H1
  have HC6 := Aside0.mk H
  clear H
  go_enter Try.func8, Try.ntmps8
  go_upto_region 3 with (first | ((with_reducible refine gate_dst (N := 3) rfl ?_); refine box_event ?hg (N := 3) ?hd (cs := #[.int .i64 a0_0, .int .i64 a0_1]) (t := 23) ?hr ?_; (case hd => rfl); (case hg => rfl); (case hr => first | (go_simp; done) | (go_simp; rfl)); intro gb172 hg w7 hbox hb; have n0_ := Aside0.mk (below_step (by repeat (first | (with_reducible first | exact HB.out | apply below_alloc | apply pw_below_drewN | apply below_drew1) | exact HB.out)) hb); have n1_ := Aside0.mk (hbox); have n2_ := Aside0.mk ((by rw [hg]; exact (below_size (by repeat (first | (with_reducible first | exact HB.out | apply below_alloc | apply pw_below_drewN | apply below_drew1) | exact HB.out))) : w.heap.size ≤ gb172)); have n3_ := Aside0.mk ((by rw [hg]; exact (below_size (by repeat (first | (with_reducible first | exact HB.out | apply below_alloc | apply pw_below_drewN | apply below_drew1) | exact HB.out))) : w.heap.size ≤ gb172)); clear HB; have HB := n0_; have BK172 := n1_; have GW172 := n2_; have GE172 := n3_; clear n0_ n1_ n2_ n3_; clear hb hbox hg) | ((with_reducible refine gate_dst (N := 5) rfl ?_); refine box_event ?hg (N := 5) ?hd (cs := #[.int .i64 a2_0, .int .i64 a2_1, .int .i64 a2_2]) (t := 33) ?hr ?_; (case hd => rfl); (case hg => rfl); (case hr => first | (go_simp; done) | (go_simp; rfl)); intro gb173 hg w8 hbox hb; have n0_ := Aside0.mk (blk_below (g := gb172) (o := .cells #[.int .i64 a0_0, .int .i64 a0_1] 23 (0, 0)) (by (with_reducible repeat (first | refine bdN ?_ _ | refine bd ?_ | refine ba ?_ _)); exact BK172.out) hb); have n1_ := Aside0.mk (below_step (by repeat (first | (with_reducible first | exact HB.out | apply below_alloc | apply pw_below_drewN | apply below_drew1 | refine bs ?_ GE172.out) | exact HB.out)) hb); have n2_ := Aside0.mk (hbox); have n3_ := Aside0.mk ((by rw [hg]; exact (below_size (by repeat (first | (with_reducible first | exact HB.out | apply below_alloc | apply pw_below_drewN | apply below_drew1 | refine bs ?_ GE172.out) | exact HB.out))) : w.heap.size ≤ gb173)); have n4_ := Aside0.mk ((by rw [hg]; exact (below_size (by repeat (first | (with_reducible first | exact HB.out | apply below_alloc | apply pw_below_drewN | apply below_drew1 | refine bs ?_ GE172.out) | exact HB.out))) : w.heap.size ≤ gb173)); have n5_ := Aside0.mk ((by rw [hg]; exact Nat.ne_of_lt (blk_lt (g := gb172) (o := .cells #[.int .i64 a0_0, .int .i64 a0_1] 23 (0, 0)) (by (with_reducible repeat (first | refine bdN ?_ _ | refine bd ?_ | refine ba ?_ _)); exact BK172.out)) : gb172 ≠ gb173)); have n6_ := Aside0.mk ((by rw [hg]; exact Nat.ne_of_gt (blk_lt (g := gb172) (o := .cells #[.int .i64 a0_0, .int .i64 a0_1] 23 (0, 0)) (by (with_reducible repeat (first | refine bdN ?_ _ | refine bd ?_ | refine ba ?_ _)); exact BK172.out)) : gb173 ≠ gb172)); clear BK172; clear HB; have BK172 := n0_; have HB := n1_; have BK173 := n2_; have GW173 := n3_; have GE173 := n4_; have NB172_173 := n5_; have NB173_172 := n6_; clear n0_ n1_ n2_ n3_ n4_ n5_ n6_; clear hb hbox hg) | ((with_reducible refine gate_callee (f := 9) rfl ?_); refine goesL_ (some 14) rfl rfl Try.func9 (by kernel_rfl) rfl #[] rfl (by (try simp only [List.map_toArray, List.map_cons, List.map_nil]); first | done | rfl | (simp only [List.length_drop, List.length_take]; rfl)) ?_; (with_reducible refine (mainsheetlaw11_wakes.calls k  true _ A4.out).mono ?_); rintro e w9 ⟨rfl, hb⟩; refine ⟨_, rfl, ?_⟩; have n0_ := Aside0.mk (blk_below (g := gb172) (o := .cells #[.int .i64 a0_0, .int .i64 a0_1] 23 (0, 0)) (by (with_reducible repeat (first | refine bdN ?_ _ | refine bd ?_ | refine ba ?_ _)); exact BK172.out) hb); have n1_ := Aside0.mk (blk_below (g := gb173) (o := .cells #[.int .i64 a2_0, .int .i64 a2_1, .int .i64 a2_2] 33 (0, 0)) (by (with_reducible repeat (first | refine bdN ?_ _ | refine bd ?_ | refine ba ?_ _)); exact BK173.out) hb); have n2_ := Aside0.mk (below_step (by repeat (first | (with_reducible first | exact HB.out | apply below_alloc | apply pw_below_drewN | apply below_drew1 | refine bs ?_ GE172.out | refine bs ?_ GE173.out) | exact HB.out)) hb); clear BK172; clear BK173; clear HB; have BK172 := n0_; have BK173 := n1_; have HB := n2_; clear n0_ n1_ n2_; (try clear hb); (try clear hb2); (try clear hk); (try clear hi)))
  (try simp only [Act.put, LsA, LsZ, LsS])
  go_cut [7] (fun v7 wc => ∃ (kq : Nat) (x7_5 : Bool), v7 = .bool x7_5 ∧ Aside0 (mainsheetlaw11_BucketChanges.j0 kq a1 x7_5 a0_0 a0_1 a2_0 a2_1 a2_2 = some r) ∧ Aside0 (kq ≤ k) ∧ Aside0 (wc.heap[gb172]? = some (.cells #[.int .i64 a0_0, .int .i64 a0_1] 23 (0, 0))) ∧ Aside0 (wc.heap[gb173]? = some (.cells #[.int .i64 a2_0, .int .i64 a2_1, .int .i64 a2_2] 33 (0, 0))) ∧ Aside0 (Below w.heap.size w wc))
  case first =>
   have H := HC6.out
   clear HC6
   by_cases c10 : a1 ≥ 0
   ·rw [if_pos c10] at H
    have c10b0 : decide (0 ≤ a1) = true := decide_eq_true c10
    clear c10
    (first | rw [c10b0] | (simp only [i64_w, i32_w]; rw [c10b0]) | skip)
    have H' := Aside0.mk H
    clear H
    go_wp2
    go_meet
    case rel => exact ⟨_, (decide (a1 ≤ 800)), (by first | rfl | (simp; done) | (simp [*]; done)), H', ⟨by first | omega | exact Nat.le_refl _⟩, ⟨by (with_reducible repeat (first | refine bdN ?_ _ | refine bd ?_ | refine ba ?_ _)); exact BK172.out⟩, ⟨by (with_reducible repeat (first | refine bdN ?_ _ | refine bd ?_ | refine ba ?_ _)); exact BK173.out⟩, ⟨by repeat (first | (with_reducible first | exact HB.out | apply below_alloc | apply pw_below_drewN | apply below_drew1 | refine bs ?_ GE172.out | refine bs ?_ GE173.out) | exact HB.out)⟩⟩
   ·rw [if_neg c10] at H
    have c10b0 : decide (0 ≤ a1) = false := decide_eq_false c10
    clear c10
    (first | rw [c10b0] | (simp only [i64_w, i32_w]; rw [c10b0]) | skip)
    have H' := Aside0.mk H
    clear H
    go_wp2
    go_meet
    case rel => exact ⟨_, (false), (by first | rfl | (simp; done) | (simp [*]; done)), H', ⟨by first | omega | exact Nat.le_refl _⟩, ⟨by (with_reducible repeat (first | refine bdN ?_ _ | refine bd ?_ | refine ba ?_ _)); exact BK172.out⟩, ⟨by (with_reducible repeat (first | refine bdN ?_ _ | refine bd ?_ | refine ba ?_ _)); exact BK173.out⟩, ⟨by repeat (first | (with_reducible first | exact HB.out | apply below_alloc | apply pw_below_drewN | apply below_drew1 | refine bs ?_ GE172.out | refine bs ?_ GE173.out) | exact HB.out)⟩⟩
  case rest =>
   clear HC6
   try clear c1
   try clear p2
   try clear c5
   try clear c8
   try clear c9
   try clear c10
   try clear c10b0
   obtain ⟨kq, x7_5, rfl, HA, HJ5, BK172, BK173, HB⟩ := hcut
   cases kq with
   | zero => exact absurd HA.out (by simp [mainsheetlaw11_BucketChanges.j0])
   | succ kj5 =>
    have H := HA.out
    clear HA
    simp only [mainsheetlaw11_BucketChanges.j0] at H
    replace H := Option.bind_eq_some_iff.mp H
    obtain ⟨⟨t175, t176, t177⟩, A110, H⟩ := H
    replace H : ((bucket_Change.f kj5 a0_0 a0_1 a1).bind fun bt179 => (if (x7_5 != (t177 == 0)) = true then (mainsheetlaw11_BucketChanges.j1 kj5 a1 x7_5 bt179.2.2 true a0_0 a0_1 a2_0 a2_1 a2_2 bt179.1 bt179.2.1) else (if x7_5 = true then ((mainsheetref11_Change.f 0 0 a1).bind fun bt183 => (if (!(t175 == bt183.1) || (!(t176 == bt183.2))) = true then (mainsheetlaw11_BucketChanges.j1 kj5 a1 x7_5 bt179.2.2 true a0_0 a0_1 a2_0 a2_1 a2_2 bt179.1 bt179.2.1) else (mainsheetlaw11_BucketChanges.j1 kj5 a1 x7_5 bt179.2.2 false a0_0 a0_1 a2_0 a2_1 a2_2 bt179.1 bt179.2.1))) else (if (!(t175 == 0) || (!(t176 == 0))) = true then (mainsheetlaw11_BucketChanges.j1 kj5 a1 x7_5 bt179.2.2 true a0_0 a0_1 a2_0 a2_1 a2_2 bt179.1 bt179.2.1) else (mainsheetlaw11_BucketChanges.j1 kj5 a1 x7_5 bt179.2.2 (t177 != 2) a0_0 a0_1 a2_0 a2_1 a2_2 bt179.1 bt179.2.1))))) = some r := H
    have A11 := Aside0.mk A110
    clear A110
    replace H := Option.bind_eq_some_iff.mp H
    obtain ⟨⟨t179, t180, t181⟩, A120, H⟩ := H
    replace H : (if (x7_5 != (t177 == 0)) = true then (mainsheetlaw11_BucketChanges.j1 kj5 a1 x7_5 t181 true a0_0 a0_1 a2_0 a2_1 a2_2 t179 t180) else (if x7_5 = true then ((mainsheetref11_Change.f 0 0 a1).bind fun bt183 => (if (!(t175 == bt183.1) || (!(t176 == bt183.2))) = true then (mainsheetlaw11_BucketChanges.j1 kj5 a1 x7_5 t181 true a0_0 a0_1 a2_0 a2_1 a2_2 t179 t180) else (mainsheetlaw11_BucketChanges.j1 kj5 a1 x7_5 t181 false a0_0 a0_1 a2_0 a2_1 a2_2 t179 t180))) else (if (!(t175 == 0) || (!(t176 == 0))) = true then (mainsheetlaw11_BucketChanges.j1 kj5 a1 x7_5 t181 true a0_0 a0_1 a2_0 a2_1 a2_2 t179 t180) else (mainsheetlaw11_BucketChanges.j1 kj5 a1 x7_5 t181 (t177 != 2) a0_0 a0_1 a2_0 a2_1 a2_2 t179 t180)))) = some r := H
    have A12 := Aside0.mk A120
    clear A120
    have HC13 := Aside0.mk H
    clear H
    go_upto_region 6 with (first | ((with_reducible refine gate_callee (f := 21) rfl ?_); refine goesL_ (some 24) rfl rfl Try.func21 (by kernel_rfl) rfl #[.int .i64 a1] rfl (by (try simp only [List.map_toArray, List.map_cons, List.map_nil]); first | done | rfl | (simp only [List.length_drop, List.length_take]; rfl)) ?_; (with_reducible refine (bucket_New.calls kj5 a1 t175 t176 t177 _ A11.out).mono ?_); rintro e w14 ⟨rfl, hb⟩; refine ⟨_, rfl, ?_⟩; have n0_ := Aside0.mk (blk_below (g := gb172) (o := .cells #[.int .i64 a0_0, .int .i64 a0_1] 23 (0, 0)) (by (with_reducible repeat (first | refine bdN ?_ _ | refine bd ?_ | refine ba ?_ _)); exact BK172.out) hb); have n1_ := Aside0.mk (blk_below (g := gb173) (o := .cells #[.int .i64 a2_0, .int .i64 a2_1, .int .i64 a2_2] 33 (0, 0)) (by (with_reducible repeat (first | refine bdN ?_ _ | refine bd ?_ | refine ba ?_ _)); exact BK173.out) hb); have n2_ := Aside0.mk (below_step (by repeat (first | (with_reducible first | exact HB.out | apply below_alloc | apply pw_below_drewN | apply below_drew1 | refine bs ?_ GE172.out | refine bs ?_ GE173.out) | exact HB.out)) hb); clear BK172; clear BK173; clear HB; have BK172 := n0_; have BK173 := n1_; have HB := n2_; clear n0_ n1_ n2_; (try clear hb); (try clear hb2); (try clear hk); (try clear hi)) | ((with_reducible refine gate_dst (N := 8) rfl ?_); refine box_event ?hg (N := 8) ?hd (cs := #[.int .i64 0, .int .i64 0]) (t := 23) ?hr ?_; (case hd => rfl); (case hg => rfl); (case hr => first | (go_simp; done) | (go_simp; rfl)); intro gb178 hg w15 hbox hb; have n0_ := Aside0.mk (blk_below (g := gb172) (o := .cells #[.int .i64 a0_0, .int .i64 a0_1] 23 (0, 0)) (by (with_reducible repeat (first | refine bdN ?_ _ | refine bd ?_ | refine ba ?_ _)); exact BK172.out) hb); have n1_ := Aside0.mk (blk_below (g := gb173) (o := .cells #[.int .i64 a2_0, .int .i64 a2_1, .int .i64 a2_2] 33 (0, 0)) (by (with_reducible repeat (first | refine bdN ?_ _ | refine bd ?_ | refine ba ?_ _)); exact BK173.out) hb); have n2_ := Aside0.mk (below_step (by repeat (first | (with_reducible first | exact HB.out | apply below_alloc | apply pw_below_drewN | apply below_drew1 | refine bs ?_ GE172.out | refine bs ?_ GE173.out) | exact HB.out)) hb); have n3_ := Aside0.mk (hbox); have n4_ := Aside0.mk ((by rw [hg]; exact (below_size (by repeat (first | (with_reducible first | exact HB.out | apply below_alloc | apply pw_below_drewN | apply below_drew1 | refine bs ?_ GE172.out | refine bs ?_ GE173.out) | exact HB.out))) : w.heap.size ≤ gb178)); have n5_ := Aside0.mk ((by rw [hg]; exact (below_size (by repeat (first | (with_reducible first | exact HB.out | apply below_alloc | apply pw_below_drewN | apply below_drew1 | refine bs ?_ GE172.out | refine bs ?_ GE173.out) | exact HB.out))) : w.heap.size ≤ gb178)); have n6_ := Aside0.mk ((by rw [hg]; exact Nat.ne_of_lt (blk_lt (g := gb172) (o := .cells #[.int .i64 a0_0, .int .i64 a0_1] 23 (0, 0)) (by (with_reducible repeat (first | refine bdN ?_ _ | refine bd ?_ | refine ba ?_ _)); exact BK172.out)) : gb172 ≠ gb178)); have n7_ := Aside0.mk ((by rw [hg]; exact Nat.ne_of_gt (blk_lt (g := gb172) (o := .cells #[.int .i64 a0_0, .int .i64 a0_1] 23 (0, 0)) (by (with_reducible repeat (first | refine bdN ?_ _ | refine bd ?_ | refine ba ?_ _)); exact BK172.out)) : gb178 ≠ gb172)); have n8_ := Aside0.mk ((by rw [hg]; exact Nat.ne_of_lt (blk_lt (g := gb173) (o := .cells #[.int .i64 a2_0, .int .i64 a2_1, .int .i64 a2_2] 33 (0, 0)) (by (with_reducible repeat (first | refine bdN ?_ _ | refine bd ?_ | refine ba ?_ _)); exact BK173.out)) : gb173 ≠ gb178)); have n9_ := Aside0.mk ((by rw [hg]; exact Nat.ne_of_gt (blk_lt (g := gb173) (o := .cells #[.int .i64 a2_0, .int .i64 a2_1, .int .i64 a2_2] 33 (0, 0)) (by (with_reducible repeat (first | refine bdN ?_ _ | refine bd ?_ | refine ba ?_ _)); exact BK173.out)) : gb178 ≠ gb173)); clear BK172; clear BK173; clear HB; have BK172 := n0_; have BK173 := n1_; have HB := n2_; have BK178 := n3_; have GW178 := n4_; have GE178 := n5_; have NB172_178 := n6_; have NB178_172 := n7_; have NB173_178 := n8_; have NB178_173 := n9_; clear n0_ n1_ n2_ n3_ n4_ n5_ n6_ n7_ n8_ n9_; clear hb hbox hg; have hnb16 := NB178_172.out; have hnc16 := NB172_178.out; have hnb17 := NB178_173.out; have hnc17 := NB173_178.out; have hcz18_0 : w15.cell? ⟨gb178, 0, none⟩ = some (.int .i64 0) := (blk_cell BK178.out 0).trans rfl; have hcz18_1 : w15.cell? ⟨gb178, 1, none⟩ = some (.int .i64 0) := (blk_cell BK178.out 1).trans rfl; have hfz18_0 := blk_frozen BK178.out 0; have hfz18_1 := blk_frozen BK178.out 1; have hnb19 := NB172_173.out; have hnc19 := NB173_172.out; have hcz20_0 : w15.cell? ⟨gb172, 0, none⟩ = some (.int .i64 a0_0) := (blk_cell BK172.out 0).trans rfl; have hcz20_1 : w15.cell? ⟨gb172, 1, none⟩ = some (.int .i64 a0_1) := (blk_cell BK172.out 1).trans rfl; have hfz20_0 := blk_frozen BK172.out 0; have hfz20_1 := blk_frozen BK172.out 1) | ((with_reducible refine gate_callee (f := 16) rfl ?_); refine goesL_ (some 30) rfl rfl Try.func16 (by kernel_rfl) rfl #[.agg #[.int .i64 a0_0, .int .i64 a0_1], .int .i64 a1] rfl (by (try simp only [List.map_toArray, List.map_cons, List.map_nil]); first | done | rfl | (simp only [List.length_drop, List.length_take]; rfl)) ?_; (with_reducible refine (bucket_Change.calls kj5 a0_0 a0_1 a1 t179 t180 t181 _ A12.out).mono ?_); rintro e w21 ⟨rfl, hb⟩; refine ⟨_, rfl, ?_⟩; have n0_ := Aside0.mk (blk_below (g := gb172) (o := .cells #[.int .i64 a0_0, .int .i64 a0_1] 23 (0, 0)) (by (with_reducible repeat (first | refine bdN ?_ _ | refine bd ?_ | refine ba ?_ _)); refine blk_far ?_ NB172_178.out _; (with_reducible repeat (first | refine bdN ?_ _ | refine bd ?_ | refine ba ?_ _)); refine blk_far ?_ NB172_178.out _; (with_reducible repeat (first | refine bdN ?_ _ | refine bd ?_ | refine ba ?_ _)); exact BK172.out) hb); have n1_ := Aside0.mk (blk_below (g := gb173) (o := .cells #[.int .i64 a2_0, .int .i64 a2_1, .int .i64 a2_2] 33 (0, 0)) (by (with_reducible repeat (first | refine bdN ?_ _ | refine bd ?_ | refine ba ?_ _)); refine blk_far ?_ NB173_178.out _; (with_reducible repeat (first | refine bdN ?_ _ | refine bd ?_ | refine ba ?_ _)); refine blk_far ?_ NB173_178.out _; (with_reducible repeat (first | refine bdN ?_ _ | refine bd ?_ | refine ba ?_ _)); exact BK173.out) hb); have n2_ := Aside0.mk (blk_below (g := gb178) (o := .cells #[.int .i64 t175, .int .i64 t176] 23 (0, 0)) (by (with_reducible repeat (first | refine bdN ?_ _ | refine bd ?_ | refine ba ?_ _)); refine blk_put (cs := #[.int .i64 t175, .int .i64 0]) ?_ 1 _ rfl; (with_reducible repeat (first | refine bdN ?_ _ | refine bd ?_ | refine ba ?_ _)); refine blk_put (cs := #[.int .i64 0, .int .i64 0]) ?_ 0 _ rfl; (with_reducible repeat (first | refine bdN ?_ _ | refine bd ?_ | refine ba ?_ _)); exact BK178.out) hb); have n3_ := Aside0.mk (below_step (by repeat (first | (with_reducible first | exact HB.out | apply below_alloc | apply pw_below_drewN | apply below_drew1 | refine bs ?_ GE172.out | refine bs ?_ GE173.out | refine bs ?_ GE178.out) | exact HB.out)) hb); clear BK172; clear BK173; clear BK178; clear HB; have BK172 := n0_; have BK173 := n1_; have BK178 := n2_; have HB := n3_; clear n0_ n1_ n2_ n3_; (try clear hb); (try clear hb2); (try clear hk); (try clear hi)) | ((with_reducible refine gate_dst (N := 10) rfl ?_); refine box_event ?hg (N := 10) ?hd (cs := #[.int .i64 0, .int .i64 0]) (t := 23) ?hr ?_; (case hd => rfl); (case hg => rfl); (case hr => first | (go_simp; done) | (go_simp; rfl)); intro gb182 hg w22 hbox hb; have n0_ := Aside0.mk (blk_below (g := gb172) (o := .cells #[.int .i64 a0_0, .int .i64 a0_1] 23 (0, 0)) (by (with_reducible repeat (first | refine bdN ?_ _ | refine bd ?_ | refine ba ?_ _)); exact BK172.out) hb); have n1_ := Aside0.mk (blk_below (g := gb173) (o := .cells #[.int .i64 a2_0, .int .i64 a2_1, .int .i64 a2_2] 33 (0, 0)) (by (with_reducible repeat (first | refine bdN ?_ _ | refine bd ?_ | refine ba ?_ _)); exact BK173.out) hb); have n2_ := Aside0.mk (blk_below (g := gb178) (o := .cells #[.int .i64 t175, .int .i64 t176] 23 (0, 0)) (by (with_reducible repeat (first | refine bdN ?_ _ | refine bd ?_ | refine ba ?_ _)); exact BK178.out) hb); have n3_ := Aside0.mk (below_step (by repeat (first | (with_reducible first | exact HB.out | apply below_alloc | apply pw_below_drewN | apply below_drew1 | refine bs ?_ GE172.out | refine bs ?_ GE173.out | refine bs ?_ GE178.out) | exact HB.out)) hb); have n4_ := Aside0.mk (hbox); have n5_ := Aside0.mk ((by rw [hg]; exact (below_size (by repeat (first | (with_reducible first | exact HB.out | apply below_alloc | apply pw_below_drewN | apply below_drew1 | refine bs ?_ GE172.out | refine bs ?_ GE173.out | refine bs ?_ GE178.out) | exact HB.out))) : w.heap.size ≤ gb182)); have n6_ := Aside0.mk ((by rw [hg]; exact (below_size (by repeat (first | (with_reducible first | exact HB.out | apply below_alloc | apply pw_below_drewN | apply below_drew1 | refine bs ?_ GE172.out | refine bs ?_ GE173.out | refine bs ?_ GE178.out) | exact HB.out))) : w.heap.size ≤ gb182)); have n7_ := Aside0.mk ((by rw [hg]; exact Nat.ne_of_lt (blk_lt (g := gb172) (o := .cells #[.int .i64 a0_0, .int .i64 a0_1] 23 (0, 0)) (by (with_reducible repeat (first | refine bdN ?_ _ | refine bd ?_ | refine ba ?_ _)); exact BK172.out)) : gb172 ≠ gb182)); have n8_ := Aside0.mk ((by rw [hg]; exact Nat.ne_of_gt (blk_lt (g := gb172) (o := .cells #[.int .i64 a0_0, .int .i64 a0_1] 23 (0, 0)) (by (with_reducible repeat (first | refine bdN ?_ _ | refine bd ?_ | refine ba ?_ _)); exact BK172.out)) : gb182 ≠ gb172)); have n9_ := Aside0.mk ((by rw [hg]; exact Nat.ne_of_lt (blk_lt (g := gb173) (o := .cells #[.int .i64 a2_0, .int .i64 a2_1, .int .i64 a2_2] 33 (0, 0)) (by (with_reducible repeat (first | refine bdN ?_ _ | refine bd ?_ | refine ba ?_ _)); exact BK173.out)) : gb173 ≠ gb182)); have n10_ := Aside0.mk ((by rw [hg]; exact Nat.ne_of_gt (blk_lt (g := gb173) (o := .cells #[.int .i64 a2_0, .int .i64 a2_1, .int .i64 a2_2] 33 (0, 0)) (by (with_reducible repeat (first | refine bdN ?_ _ | refine bd ?_ | refine ba ?_ _)); exact BK173.out)) : gb182 ≠ gb173)); have n11_ := Aside0.mk ((by rw [hg]; exact Nat.ne_of_lt (blk_lt (g := gb178) (o := .cells #[.int .i64 t175, .int .i64 t176] 23 (0, 0)) (by (with_reducible repeat (first | refine bdN ?_ _ | refine bd ?_ | refine ba ?_ _)); exact BK178.out)) : gb178 ≠ gb182)); have n12_ := Aside0.mk ((by rw [hg]; exact Nat.ne_of_gt (blk_lt (g := gb178) (o := .cells #[.int .i64 t175, .int .i64 t176] 23 (0, 0)) (by (with_reducible repeat (first | refine bdN ?_ _ | refine bd ?_ | refine ba ?_ _)); exact BK178.out)) : gb182 ≠ gb178)); clear BK172; clear BK173; clear BK178; clear HB; have BK172 := n0_; have BK173 := n1_; have BK178 := n2_; have HB := n3_; have BK182 := n4_; have GW182 := n5_; have GE182 := n6_; have NB172_182 := n7_; have NB182_172 := n8_; have NB173_182 := n9_; have NB182_173 := n10_; have NB178_182 := n11_; have NB182_178 := n12_; clear n0_ n1_ n2_ n3_ n4_ n5_ n6_ n7_ n8_ n9_ n10_ n11_ n12_; clear hb hbox hg; have hnb23 := NB182_172.out; have hnc23 := NB172_182.out; have hnb24 := NB182_173.out; have hnc24 := NB173_182.out; have hnb25 := NB182_178.out; have hnc25 := NB178_182.out; have hcz26_0 : w22.cell? ⟨gb182, 0, none⟩ = some (.int .i64 0) := (blk_cell BK182.out 0).trans rfl; have hcz26_1 : w22.cell? ⟨gb182, 1, none⟩ = some (.int .i64 0) := (blk_cell BK182.out 1).trans rfl; have hfz26_0 := blk_frozen BK182.out 0; have hfz26_1 := blk_frozen BK182.out 1))
    (try simp only [Act.put, LsA, LsZ, LsS])
    go_cut [59] (fun v59 wc => ∃ (kq : Nat) (x59_12 : Bool), v59 = .bool x59_12 ∧ Aside0 (mainsheetlaw11_BucketChanges.j1 kq a1 x7_5 t181 x59_12 a0_0 a0_1 a2_0 a2_1 a2_2 t179 t180 = some r) ∧ Aside0 (kq ≤ kj5) ∧ Aside0 (wc.heap[gb172]? = some (.cells #[.int .i64 a0_0, .int .i64 a0_1] 23 (0, 0))) ∧ Aside0 (wc.heap[gb173]? = some (.cells #[.int .i64 a2_0, .int .i64 a2_1, .int .i64 a2_2] 33 (0, 0))) ∧ Aside0 (wc.heap[gb178]? = some (.cells #[.int .i64 t175, .int .i64 t176] 23 (0, 0))) ∧ Aside0 (wc.heap[gb182]? = some (.cells #[.int .i64 t179, .int .i64 t180] 23 (0, 0))) ∧ Aside0 (Below w.heap.size w wc))
    case first =>
     have H := HC13.out
     clear HC13
     by_cases c27 : (x7_5 != (t177 == 0)) = true
     ·rw [if_pos c27] at H
      have c27b0 : (x7_5 != (t177 == 0)) = true := c27
      (try (have c27b1 : decide (x7_5 = (t177 == 0)) = false := by simpa using c27))
      (try (have c27b2 : (x7_5 == (t177 == 0)) = false := by simpa using c27))
      (try (have c27b3 : ¬ (x7_5 = (t177 == 0)) := by simpa using c27))
      clear c27
      (first | rw [c27b0] | (simp only [i64_w, i32_w]; rw [c27b0]) | skip)
      have H' := Aside0.mk H
      clear H
      try go_wp2
      have n0_ : Aside0 (((w22.setCell ⟨gb182, 0, none⟩ (.int .i64 t179)).setCell ⟨gb182, 1, none⟩ (.int .i64 t180)).heap[gb172]? = some (.cells #[.int .i64 a0_0, .int .i64 a0_1] 23 (0, 0))) := ⟨by (with_reducible repeat (first | refine bdN ?_ _ | refine bd ?_ | refine ba ?_ _)); refine blk_far ?_ NB172_182.out _; (with_reducible repeat (first | refine bdN ?_ _ | refine bd ?_ | refine ba ?_ _)); refine blk_far ?_ NB172_182.out _; (with_reducible repeat (first | refine bdN ?_ _ | refine bd ?_ | refine ba ?_ _)); exact BK172.out⟩
      have n1_ : Aside0 (((w22.setCell ⟨gb182, 0, none⟩ (.int .i64 t179)).setCell ⟨gb182, 1, none⟩ (.int .i64 t180)).heap[gb173]? = some (.cells #[.int .i64 a2_0, .int .i64 a2_1, .int .i64 a2_2] 33 (0, 0))) := ⟨by (with_reducible repeat (first | refine bdN ?_ _ | refine bd ?_ | refine ba ?_ _)); refine blk_far ?_ NB173_182.out _; (with_reducible repeat (first | refine bdN ?_ _ | refine bd ?_ | refine ba ?_ _)); refine blk_far ?_ NB173_182.out _; (with_reducible repeat (first | refine bdN ?_ _ | refine bd ?_ | refine ba ?_ _)); exact BK173.out⟩
      have n2_ : Aside0 (((w22.setCell ⟨gb182, 0, none⟩ (.int .i64 t179)).setCell ⟨gb182, 1, none⟩ (.int .i64 t180)).heap[gb178]? = some (.cells #[.int .i64 t175, .int .i64 t176] 23 (0, 0))) := ⟨by (with_reducible repeat (first | refine bdN ?_ _ | refine bd ?_ | refine ba ?_ _)); refine blk_far ?_ NB178_182.out _; (with_reducible repeat (first | refine bdN ?_ _ | refine bd ?_ | refine ba ?_ _)); refine blk_far ?_ NB178_182.out _; (with_reducible repeat (first | refine bdN ?_ _ | refine bd ?_ | refine ba ?_ _)); exact BK178.out⟩
      have n3_ : Aside0 (((w22.setCell ⟨gb182, 0, none⟩ (.int .i64 t179)).setCell ⟨gb182, 1, none⟩ (.int .i64 t180)).heap[gb182]? = some (.cells #[.int .i64 t179, .int .i64 t180] 23 (0, 0))) := ⟨by (with_reducible repeat (first | refine bdN ?_ _ | refine bd ?_ | refine ba ?_ _)); refine blk_put (cs := #[.int .i64 t179, .int .i64 0]) ?_ 1 _ rfl; (with_reducible repeat (first | refine bdN ?_ _ | refine bd ?_ | refine ba ?_ _)); refine blk_put (cs := #[.int .i64 0, .int .i64 0]) ?_ 0 _ rfl; (with_reducible repeat (first | refine bdN ?_ _ | refine bd ?_ | refine ba ?_ _)); exact BK182.out⟩
      have n4_ : Aside0 (Below w.heap.size w ((w22.setCell ⟨gb182, 0, none⟩ (.int .i64 t179)).setCell ⟨gb182, 1, none⟩ (.int .i64 t180))) := ⟨by repeat (first | (with_reducible first | exact HB.out | apply below_alloc | apply pw_below_drewN | apply below_drew1 | refine bs ?_ GE172.out | refine bs ?_ GE173.out | refine bs ?_ GE178.out | refine bs ?_ GE182.out) | exact HB.out)⟩
      (try clear BK172)
      (try clear BK173)
      (try clear BK178)
      (try clear BK182)
      (try clear HB)
      generalize ((w22.setCell ⟨gb182, 0, none⟩ (.int .i64 t179)).setCell ⟨gb182, 1, none⟩ (.int .i64 t180)) = w28 at n0_ n1_ n2_ n3_ n4_ ⊢
      have BK172 := n0_
      have BK173 := n1_
      have BK178 := n2_
      have BK182 := n3_
      have HB := n4_
      clear n0_ n1_ n2_ n3_ n4_
      have n0_ := Aside0.mk (bd BK172.out)
      have n1_ := Aside0.mk (bd BK173.out)
      have n2_ := Aside0.mk (bd BK178.out)
      have n3_ := Aside0.mk (bd BK182.out)
      have n4_ := Aside0.mk (below_drew1 HB.out)
      clear BK172
      clear BK173
      clear BK178
      clear BK182
      clear HB
      have BK172 := n0_
      have BK173 := n1_
      have BK178 := n2_
      have BK182 := n3_
      have HB := n4_
      clear n0_ n1_ n2_ n3_ n4_
      refine start_ (n := 27) (S := fun w' => True) (ds := []) #[false, false, false, false, false, false, false, false, false, false, false, false, false, false, false, false, false, false, false, false, false, false, false, false, false, false, false] (by kernel_rfl) rfl rfl trivial (fun hHeld => ?_); refine with_tabW mainsheetlaw11_BucketChanges.tab6 mainsheetlaw11_BucketChanges.bits6 (fun HT_ HW_ => ?_)
      generalize w28.drew = w29 at BK172 BK173 BK178 BK182 HB hHeld ⊢
      refine pure_ (i := 0) (N := some 33) (v := ?_) (a' := ?_) #[true, false, false, false, false, false, false, false, false, false, false, false, false, false, false, false, false, false, false, false, false, false, false, false, false, false, false] rfl rfl (any_of HT_.out (by kernel_rfl)) (fun _ _ _ h => h) (Or.inl ⟨by rfl, ?_⟩) ?_ ?_
      rotate_left
      ·intro w'
       go_simp
       with_reducible rfl
      rotate_left
      ·simp only [Act.put, LsA, LsZ, LsS, i64_w, i32_w]
       rfl
      refine pure_ (i := 1) (N := some 34) (v := ?_) (a' := ?_) #[true, true, false, false, false, false, false, false, false, false, false, false, false, false, false, false, false, false, false, false, false, false, false, false, false, false, false] rfl rfl (any_of HT_.out (by kernel_rfl)) (fun _ _ _ h => h) (Or.inl ⟨by rfl, ?_⟩) ?_ ?_
      rotate_left
      ·intro w'
       go_simp
       with_reducible rfl
      rotate_left
      ·simp only [Act.put, LsA, LsZ, LsS, i64_w, i32_w]
       rfl
      refine pure_ (i := 2) (N := some 35) (v := ?_) (a' := ?_) #[true, true, true, false, false, false, false, false, false, false, false, false, false, false, false, false, false, false, false, false, false, false, false, false, false, false, false] rfl rfl (any_of HT_.out (by kernel_rfl)) (fun _ _ _ h => h) (Or.inl ⟨by rfl, ?_⟩) ?_ ?_
      rotate_left
      ·intro w'
       go_simp
       with_reducible rfl
      rotate_left
      ·simp only [Act.put, LsA, LsZ, LsS, i64_w, i32_w]
       rfl
      refine pure_ (i := 3) (N := some 36) (v := ?_) (a' := ?_) #[true, true, true, true, false, false, false, false, false, false, false, false, false, false, false, false, false, false, false, false, false, false, false, false, false, false, false] rfl rfl (any_of HT_.out (by kernel_rfl)) (fun _ _ _ h => h) (Or.inl ⟨by rfl, ?_⟩) ?_ ?_
      rotate_left
      ·intro w'
       go_simp
       with_reducible rfl
      rotate_left
      ·simp only [Act.put, LsA, LsZ, LsS, i64_w, i32_w]
       rfl
      refine pure_ (i := 4) (N := some 37) (v := ?_) (a' := ?_) #[true, true, true, true, true, false, false, false, false, false, false, false, false, false, false, false, false, false, false, false, false, false, false, false, false, false, false] rfl rfl (any_of HT_.out (by kernel_rfl)) (fun _ _ _ h => h) (Or.inl ⟨by rfl, ?_⟩) ?_ ?_
      rotate_left
      ·intro w'
       go_simp
       with_reducible rfl
      rotate_left
      ·simp only [Act.put, LsA, LsZ, LsS, i64_w, i32_w]
       rfl
      refine pure_ (i := 5) (N := some 38) (v := undef) (a' := ?_) #[true, true, true, true, true, true, false, false, false, false, false, false, false, false, false, false, false, false, false, false, false, false, false, false, false, false, false] rfl rfl (any_of HT_.out (by kernel_rfl)) (fun _ _ _ h => h) (Or.inr ⟨by rfl, rfl⟩) ?_ ?_
      rotate_left
      ·simp only [Act.put, LsA, LsZ, LsS, i64_w, i32_w]
       rfl
      refine pure_ (i := 6) (N := some 39) (v := undef) (a' := ?_) #[true, true, true, true, true, true, true, false, false, false, false, false, false, false, false, false, false, false, false, false, false, false, false, false, false, false, false] rfl rfl (any_of HT_.out (by kernel_rfl)) (fun _ _ _ h => h) (Or.inr ⟨by rfl, rfl⟩) ?_ ?_
      rotate_left
      ·simp only [Act.put, LsA, LsZ, LsS, i64_w, i32_w]
       rfl
      refine pure_ (i := 7) (N := some 40) (v := undef) (a' := ?_) #[true, true, true, true, true, true, true, true, false, false, false, false, false, false, false, false, false, false, false, false, false, false, false, false, false, false, false] rfl rfl (any_of HT_.out (by kernel_rfl)) (fun _ _ _ h => h) (Or.inr ⟨by rfl, rfl⟩) ?_ ?_
      rotate_left
      ·simp only [Act.put, LsA, LsZ, LsS, i64_w, i32_w]
       rfl
      refine pure_ (i := 8) (N := some 41) (v := undef) (a' := ?_) #[true, true, true, true, true, true, true, true, true, false, false, false, false, false, false, false, false, false, false, false, false, false, false, false, false, false, false] rfl rfl (any_of HT_.out (by kernel_rfl)) (fun _ _ _ h => h) (Or.inr ⟨by rfl, rfl⟩) ?_ ?_
      rotate_left
      ·simp only [Act.put, LsA, LsZ, LsS, i64_w, i32_w]
       rfl
      refine pure_ (i := 9) (N := some 42) (v := undef) (a' := ?_) #[true, true, true, true, true, true, true, true, true, true, false, false, false, false, false, false, false, false, false, false, false, false, false, false, false, false, false] rfl rfl (any_of HT_.out (by kernel_rfl)) (fun _ _ _ h => h) (Or.inr ⟨by rfl, rfl⟩) ?_ ?_
      rotate_left
      ·simp only [Act.put, LsA, LsZ, LsS, i64_w, i32_w]
       rfl
      refine pure_ (i := 10) (N := some 43) (v := undef) (a' := ?_) #[true, true, true, true, true, true, true, true, true, true, true, false, false, false, false, false, false, false, false, false, false, false, false, false, false, false, false] rfl rfl (any_of HT_.out (by kernel_rfl)) (fun _ _ _ h => h) (Or.inr ⟨by rfl, rfl⟩) ?_ ?_
      rotate_left
      ·simp only [Act.put, LsA, LsZ, LsS, i64_w, i32_w]
       rfl
      refine pure_ (i := 11) (N := some 44) (v := undef) (a' := ?_) #[true, true, true, true, true, true, true, true, true, true, true, true, false, false, false, false, false, false, false, false, false, false, false, false, false, false, false] rfl rfl (any_of HT_.out (by kernel_rfl)) (fun _ _ _ h => h) (Or.inr ⟨by rfl, rfl⟩) ?_ ?_
      rotate_left
      ·simp only [Act.put, LsA, LsZ, LsS, i64_w, i32_w]
       rfl
      refine pure_ (i := 12) (N := some 45) (v := undef) (a' := ?_) #[true, true, true, true, true, true, true, true, true, true, true, true, true, false, false, false, false, false, false, false, false, false, false, false, false, false, false] rfl rfl (any_of HT_.out (by kernel_rfl)) (fun _ _ _ h => h) (Or.inr ⟨by rfl, rfl⟩) ?_ ?_
      rotate_left
      ·simp only [Act.put, LsA, LsZ, LsS, i64_w, i32_w]
       rfl
      refine pure_ (i := 13) (N := some 46) (v := ?_) (a' := ?_) #[true, true, true, true, true, true, true, true, true, true, true, true, true, true, false, false, false, false, false, false, false, false, false, false, false, false, false] rfl rfl (any_of HT_.out (by kernel_rfl)) (fun _ _ _ h => h) (Or.inl ⟨by rfl, ?_⟩) ?_ ?_
      rotate_left
      ·intro w'
       go_simp
       with_reducible rfl
      rotate_left
      ·simp only [Act.put, LsA, LsZ, LsS, i64_w, i32_w]
       rfl
      refine pure_ (i := 14) (N := some 47) (v := ?_) (a' := ?_) #[true, true, true, true, true, true, true, true, true, true, true, true, true, true, true, false, false, false, false, false, false, false, false, false, false, false, false] rfl rfl (any_of HT_.out (by kernel_rfl)) (fun _ _ _ h => h) (Or.inl ⟨by rfl, ?_⟩) ?_ ?_
      rotate_left
      ·intro w'
       go_simp
       with_reducible rfl
      rotate_left
      ·simp only [Act.put, LsA, LsZ, LsS, i64_w, i32_w]
       rfl
      refine pure_ (i := 15) (N := some 48) (v := undef) (a' := ?_) #[true, true, true, true, true, true, true, true, true, true, true, true, true, true, true, true, false, false, false, false, false, false, false, false, false, false, false] rfl rfl (any_of HT_.out (by kernel_rfl)) (fun _ _ _ h => h) (Or.inr ⟨by rfl, rfl⟩) ?_ ?_
      rotate_left
      ·simp only [Act.put, LsA, LsZ, LsS, i64_w, i32_w]
       rfl
      refine pure_ (i := 16) (N := some 49) (v := undef) (a' := ?_) #[true, true, true, true, true, true, true, true, true, true, true, true, true, true, true, true, true, false, false, false, false, false, false, false, false, false, false] rfl rfl (any_of HT_.out (by kernel_rfl)) (fun _ _ _ h => h) (Or.inr ⟨by rfl, rfl⟩) ?_ ?_
      rotate_left
      ·simp only [Act.put, LsA, LsZ, LsS, i64_w, i32_w]
       rfl
      refine pure_ (i := 17) (N := some 50) (v := undef) (a' := ?_) #[true, true, true, true, true, true, true, true, true, true, true, true, true, true, true, true, true, true, false, false, false, false, false, false, false, false, false] rfl rfl (any_of HT_.out (by kernel_rfl)) (fun _ _ _ h => h) (Or.inr ⟨by rfl, rfl⟩) ?_ ?_
      rotate_left
      ·simp only [Act.put, LsA, LsZ, LsS, i64_w, i32_w]
       rfl
      refine pure_ (i := 18) (N := some 51) (v := undef) (a' := ?_) #[true, true, true, true, true, true, true, true, true, true, true, true, true, true, true, true, true, true, true, false, false, false, false, false, false, false, false] rfl rfl (any_of HT_.out (by kernel_rfl)) (fun _ _ _ h => h) (Or.inr ⟨by rfl, rfl⟩) ?_ ?_
      rotate_left
      ·simp only [Act.put, LsA, LsZ, LsS, i64_w, i32_w]
       rfl
      refine pure_ (i := 19) (N := some 52) (v := undef) (a' := ?_) #[true, true, true, true, true, true, true, true, true, true, true, true, true, true, true, true, true, true, true, true, false, false, false, false, false, false, false] rfl rfl (any_of HT_.out (by kernel_rfl)) (fun _ _ _ h => h) (Or.inr ⟨by rfl, rfl⟩) ?_ ?_
      rotate_left
      ·simp only [Act.put, LsA, LsZ, LsS, i64_w, i32_w]
       rfl
      refine pure_ (i := 20) (N := some 53) (v := undef) (a' := ?_) #[true, true, true, true, true, true, true, true, true, true, true, true, true, true, true, true, true, true, true, true, true, false, false, false, false, false, false] rfl rfl (any_of HT_.out (by kernel_rfl)) (fun _ _ _ h => h) (Or.inr ⟨by rfl, rfl⟩) ?_ ?_
      rotate_left
      ·simp only [Act.put, LsA, LsZ, LsS, i64_w, i32_w]
       rfl
      refine pure_ (i := 21) (N := some 54) (v := undef) (a' := ?_) #[true, true, true, true, true, true, true, true, true, true, true, true, true, true, true, true, true, true, true, true, true, true, false, false, false, false, false] rfl rfl (any_of HT_.out (by kernel_rfl)) (fun _ _ _ h => h) (Or.inr ⟨by rfl, rfl⟩) ?_ ?_
      rotate_left
      ·simp only [Act.put, LsA, LsZ, LsS, i64_w, i32_w]
       rfl
      refine pure_ (i := 22) (N := some 55) (v := undef) (a' := ?_) #[true, true, true, true, true, true, true, true, true, true, true, true, true, true, true, true, true, true, true, true, true, true, true, false, false, false, false] rfl rfl (any_of HT_.out (by kernel_rfl)) (fun _ _ _ h => h) (Or.inr ⟨by rfl, rfl⟩) ?_ ?_
      rotate_left
      ·simp only [Act.put, LsA, LsZ, LsS, i64_w, i32_w]
       rfl
      refine pure_ (i := 23) (N := some 56) (v := undef) (a' := ?_) #[true, true, true, true, true, true, true, true, true, true, true, true, true, true, true, true, true, true, true, true, true, true, true, true, false, false, false] rfl rfl (any_of HT_.out (by kernel_rfl)) (fun _ _ _ h => h) (Or.inr ⟨by rfl, rfl⟩) ?_ ?_
      rotate_left
      ·simp only [Act.put, LsA, LsZ, LsS, i64_w, i32_w]
       rfl
      refine pure_ (i := 24) (N := some 57) (v := undef) (a' := ?_) #[true, true, true, true, true, true, true, true, true, true, true, true, true, true, true, true, true, true, true, true, true, true, true, true, true, false, false] rfl rfl (any_of HT_.out (by kernel_rfl)) (fun _ _ _ h => h) (Or.inr ⟨by rfl, rfl⟩) ?_ ?_
      rotate_left
      ·simp only [Act.put, LsA, LsZ, LsS, i64_w, i32_w]
       rfl
      refine pure_ (i := 25) (N := some 58) (v := undef) (a' := ?_) #[true, true, true, true, true, true, true, true, true, true, true, true, true, true, true, true, true, true, true, true, true, true, true, true, true, true, false] rfl rfl (any_of HT_.out (by kernel_rfl)) (fun _ _ _ h => h) (Or.inr ⟨by rfl, rfl⟩) ?_ ?_
      rotate_left
      ·simp only [Act.put, LsA, LsZ, LsS, i64_w, i32_w]
       rfl
      refine pure_ (i := 26) (N := some 59) (v := ?_) (a' := ?_) #[true, true, true, true, true, true, true, true, true, true, true, true, true, true, true, true, true, true, true, true, true, true, true, true, true, true, true] rfl rfl (any_of HT_.out (by kernel_rfl)) (fun _ _ _ h => h) (Or.inl ⟨by rfl, ?_⟩) ?_ ?_
      rotate_left
      ·intro w'
       go_simp
       with_reducible rfl
      rotate_left
      ·simp only [Act.put, LsA, LsZ, LsS, i64_w, i32_w]
       rfl
      refine done_ (done_of HT_.out (by kernel_rfl)) ?_
      try go_wp2
      go_meet
      case rel => exact ⟨_, (true), (by first | rfl | (simp; done) | (simp [*]; done)), H', ⟨by have := HJ5.out; first | omega | exact Nat.le_refl _⟩, ⟨by (with_reducible repeat (first | refine bdN ?_ _ | refine bd ?_ | refine ba ?_ _)); exact BK172.out⟩, ⟨by (with_reducible repeat (first | refine bdN ?_ _ | refine bd ?_ | refine ba ?_ _)); exact BK173.out⟩, ⟨by (with_reducible repeat (first | refine bdN ?_ _ | refine bd ?_ | refine ba ?_ _)); exact BK178.out⟩, ⟨by (with_reducible repeat (first | refine bdN ?_ _ | refine bd ?_ | refine ba ?_ _)); exact BK182.out⟩, ⟨by repeat (first | (with_reducible first | exact HB.out | apply below_alloc | apply pw_below_drewN | apply below_drew1 | refine bs ?_ GE172.out | refine bs ?_ GE173.out | refine bs ?_ GE178.out | refine bs ?_ GE182.out) | exact HB.out)⟩⟩
     ·rw [if_neg c27] at H
      have c27b0 : (x7_5 != (t177 == 0)) = false := by simpa using c27
      (try (have c27b1 : decide (x7_5 = (t177 == 0)) = true := by simpa using c27))
      (try (have c27b2 : (x7_5 == (t177 == 0)) = true := by simpa using c27))
      clear c27
      (first | rw [c27b0] | (simp only [i64_w, i32_w]; rw [c27b0]) | skip)
      by_cases c30 : x7_5 = true
      ·subst c30
       have H1 : ((mainsheetref11_Change.f 0 0 a1).bind fun bt183 => (if (!(t175 == bt183.1) || (!(t176 == bt183.2))) = true then (mainsheetlaw11_BucketChanges.j1 kj5 a1 true t181 true a0_0 a0_1 a2_0 a2_1 a2_2 t179 t180) else (mainsheetlaw11_BucketChanges.j1 kj5 a1 true t181 false a0_0 a0_1 a2_0 a2_1 a2_2 t179 t180))) = some r := by rw [if_pos rfl] at H; exact H
       clear H
       have H := H1
       clear H1
       replace H := Option.bind_eq_some_iff.mp H
       obtain ⟨⟨t183, t184⟩, A310, H⟩ := H
       replace H : (if (!(t175 == t183) || (!(t176 == t184))) = true then (mainsheetlaw11_BucketChanges.j1 kj5 a1 true t181 true a0_0 a0_1 a2_0 a2_1 a2_2 t179 t180) else (mainsheetlaw11_BucketChanges.j1 kj5 a1 true t181 false a0_0 a0_1 a2_0 a2_1 a2_2 t179 t180)) = some r := H
       have A31 := Aside0.mk A310
       clear A310
       by_cases c32 : (!(t175 == t183) || (!(t176 == t184))) = true
       ·rw [if_pos c32] at H
        have c32b0 : (!(t175 == t183) || (!(t176 == t184))) = true := c32
        clear c32
        have H' := Aside0.mk H
        clear H
        try go_wp2
        have n0_ : Aside0 (((w22.setCell ⟨gb182, 0, none⟩ (.int .i64 t179)).setCell ⟨gb182, 1, none⟩ (.int .i64 t180)).heap[gb172]? = some (.cells #[.int .i64 a0_0, .int .i64 a0_1] 23 (0, 0))) := ⟨by (with_reducible repeat (first | refine bdN ?_ _ | refine bd ?_ | refine ba ?_ _)); refine blk_far ?_ NB172_182.out _; (with_reducible repeat (first | refine bdN ?_ _ | refine bd ?_ | refine ba ?_ _)); refine blk_far ?_ NB172_182.out _; (with_reducible repeat (first | refine bdN ?_ _ | refine bd ?_ | refine ba ?_ _)); exact BK172.out⟩
        have n1_ : Aside0 (((w22.setCell ⟨gb182, 0, none⟩ (.int .i64 t179)).setCell ⟨gb182, 1, none⟩ (.int .i64 t180)).heap[gb173]? = some (.cells #[.int .i64 a2_0, .int .i64 a2_1, .int .i64 a2_2] 33 (0, 0))) := ⟨by (with_reducible repeat (first | refine bdN ?_ _ | refine bd ?_ | refine ba ?_ _)); refine blk_far ?_ NB173_182.out _; (with_reducible repeat (first | refine bdN ?_ _ | refine bd ?_ | refine ba ?_ _)); refine blk_far ?_ NB173_182.out _; (with_reducible repeat (first | refine bdN ?_ _ | refine bd ?_ | refine ba ?_ _)); exact BK173.out⟩
        have n2_ : Aside0 (((w22.setCell ⟨gb182, 0, none⟩ (.int .i64 t179)).setCell ⟨gb182, 1, none⟩ (.int .i64 t180)).heap[gb178]? = some (.cells #[.int .i64 t175, .int .i64 t176] 23 (0, 0))) := ⟨by (with_reducible repeat (first | refine bdN ?_ _ | refine bd ?_ | refine ba ?_ _)); refine blk_far ?_ NB178_182.out _; (with_reducible repeat (first | refine bdN ?_ _ | refine bd ?_ | refine ba ?_ _)); refine blk_far ?_ NB178_182.out _; (with_reducible repeat (first | refine bdN ?_ _ | refine bd ?_ | refine ba ?_ _)); exact BK178.out⟩
        have n3_ : Aside0 (((w22.setCell ⟨gb182, 0, none⟩ (.int .i64 t179)).setCell ⟨gb182, 1, none⟩ (.int .i64 t180)).heap[gb182]? = some (.cells #[.int .i64 t179, .int .i64 t180] 23 (0, 0))) := ⟨by (with_reducible repeat (first | refine bdN ?_ _ | refine bd ?_ | refine ba ?_ _)); refine blk_put (cs := #[.int .i64 t179, .int .i64 0]) ?_ 1 _ rfl; (with_reducible repeat (first | refine bdN ?_ _ | refine bd ?_ | refine ba ?_ _)); refine blk_put (cs := #[.int .i64 0, .int .i64 0]) ?_ 0 _ rfl; (with_reducible repeat (first | refine bdN ?_ _ | refine bd ?_ | refine ba ?_ _)); exact BK182.out⟩
        have n4_ : Aside0 (Below w.heap.size w ((w22.setCell ⟨gb182, 0, none⟩ (.int .i64 t179)).setCell ⟨gb182, 1, none⟩ (.int .i64 t180))) := ⟨by repeat (first | (with_reducible first | exact HB.out | apply below_alloc | apply pw_below_drewN | apply below_drew1 | refine bs ?_ GE172.out | refine bs ?_ GE173.out | refine bs ?_ GE178.out | refine bs ?_ GE182.out) | exact HB.out)⟩
        (try clear BK172)
        (try clear BK173)
        (try clear BK178)
        (try clear BK182)
        (try clear HB)
        generalize ((w22.setCell ⟨gb182, 0, none⟩ (.int .i64 t179)).setCell ⟨gb182, 1, none⟩ (.int .i64 t180)) = w33 at n0_ n1_ n2_ n3_ n4_ ⊢
        have BK172 := n0_
        have BK173 := n1_
        have BK178 := n2_
        have BK182 := n3_
        have HB := n4_
        clear n0_ n1_ n2_ n3_ n4_
        have n0_ := Aside0.mk (bd BK172.out)
        have n1_ := Aside0.mk (bd BK173.out)
        have n2_ := Aside0.mk (bd BK178.out)
        have n3_ := Aside0.mk (bd BK182.out)
        have n4_ := Aside0.mk (below_drew1 HB.out)
        clear BK172
        clear BK173
        clear BK178
        clear BK182
        clear HB
        have BK172 := n0_
        have BK173 := n1_
        have BK178 := n2_
        have BK182 := n3_
        have HB := n4_
        clear n0_ n1_ n2_ n3_ n4_
        refine start_ (n := 27) (S := fun w' => w'.cell? ⟨gb178, 0, none⟩ = some (.int .i64 t175) ∧ w'.cell? ⟨gb178, 1, none⟩ = some (.int .i64 t176)) (ds := []) #[false, false, false, false, false, false, false, false, false, false, false, false, false, false, false, false, false, false, false, false, false, false, false, false, false, false, false] (by kernel_rfl) rfl rfl ⟨(blk_cell BK178.out 0).trans rfl, (blk_cell BK178.out 1).trans rfl⟩ (fun hHeld => ?_); refine with_tabW mainsheetlaw11_BucketChanges.tab6 mainsheetlaw11_BucketChanges.bits6 (fun HT_ HW_ => ?_)
        generalize w33.drew = w34 at BK172 BK173 BK178 BK182 HB hHeld ⊢
        refine pure_ (i := 0) (N := some 33) (v := ?_) (a' := ?_) #[true, false, false, false, false, false, false, false, false, false, false, false, false, false, false, false, false, false, false, false, false, false, false, false, false, false, false] rfl rfl (any_of HT_.out (by kernel_rfl)) (fun _ _ _ h => h) (Or.inl ⟨by rfl, ?_⟩) ?_ ?_
        rotate_left
        ·intro w'
         go_simp
         with_reducible rfl
        rotate_left
        ·simp only [Act.put, LsA, LsZ, LsS, i64_w, i32_w]
         rfl
        refine pure_ (i := 1) (N := some 34) (v := ?_) (a' := ?_) #[true, true, false, false, false, false, false, false, false, false, false, false, false, false, false, false, false, false, false, false, false, false, false, false, false, false, false] rfl rfl (any_of HT_.out (by kernel_rfl)) (fun _ _ _ h => h) (Or.inl ⟨by rfl, ?_⟩) ?_ ?_
        rotate_left
        ·intro w'
         go_simp
         with_reducible rfl
        rotate_left
        ·simp only [Act.put, LsA, LsZ, LsS, i64_w, i32_w]
         rfl
        refine pure_ (i := 2) (N := some 35) (v := ?_) (a' := ?_) #[true, true, true, false, false, false, false, false, false, false, false, false, false, false, false, false, false, false, false, false, false, false, false, false, false, false, false] rfl rfl (any_of HT_.out (by kernel_rfl)) (fun _ _ _ h => h) (Or.inl ⟨by rfl, ?_⟩) ?_ ?_
        rotate_left
        ·intro w'
         go_simp
         with_reducible rfl
        rotate_left
        ·simp only [Act.put, LsA, LsZ, LsS, i64_w, i32_w]
         rfl
        refine pure_ (i := 3) (N := some 36) (v := ?_) (a' := ?_) #[true, true, true, true, false, false, false, false, false, false, false, false, false, false, false, false, false, false, false, false, false, false, false, false, false, false, false] rfl rfl (any_of HT_.out (by kernel_rfl)) (fun _ _ _ h => h) (Or.inl ⟨by rfl, ?_⟩) ?_ ?_
        rotate_left
        ·intro w'
         go_simp
         with_reducible rfl
        rotate_left
        ·simp only [Act.put, LsA, LsZ, LsS, i64_w, i32_w]
         rfl
        refine pure_ (i := 4) (N := some 37) (v := ?_) (a' := ?_) #[true, true, true, true, true, false, false, false, false, false, false, false, false, false, false, false, false, false, false, false, false, false, false, false, false, false, false] rfl rfl (any_of HT_.out (by kernel_rfl)) (fun _ _ _ h => h) (Or.inl ⟨by rfl, ?_⟩) ?_ ?_
        rotate_left
        ·intro w'
         go_simp
         with_reducible rfl
        rotate_left
        ·simp only [Act.put, LsA, LsZ, LsS, i64_w, i32_w]
         rfl
        refine pure_ (i := 5) (N := some 38) (v := ?_) (a' := ?_) #[true, true, true, true, true, true, false, false, false, false, false, false, false, false, false, false, false, false, false, false, false, false, false, false, false, false, false] rfl rfl (any_of HT_.out (by kernel_rfl)) (fun _ _ _ h => h) (Or.inl ⟨by rfl, ?_⟩) ?_ ?_
        rotate_left
        ·intro w'
         go_simp
         with_reducible rfl
        rotate_left
        ·simp only [Act.put, LsA, LsZ, LsS, i64_w, i32_w]
         rfl
        refine pure_ (i := 6) (N := some 39) (v := ?_) (a' := ?_) #[true, true, true, true, true, true, true, false, false, false, false, false, false, false, false, false, false, false, false, false, false, false, false, false, false, false, false] rfl rfl (any_of HT_.out (by kernel_rfl)) (fun _ _ _ h => h) (Or.inl ⟨by rfl, ?_⟩) ?_ ?_
        rotate_left
        ·intro w'
         go_simp
         with_reducible rfl
        rotate_left
        ·simp only [Act.put, LsA, LsZ, LsS, i64_w, i32_w]
         rfl
        refine pure_ (i := 8) (N := some 41) (v := ?_) (a' := ?_) #[true, true, true, true, true, true, true, false, true, false, false, false, false, false, false, false, false, false, false, false, false, false, false, false, false, false, false] rfl rfl (any_of HT_.out (by kernel_rfl)) (fun _ _ _ h => h) (Or.inl ⟨by rfl, ?_⟩) ?_ ?_
        rotate_left
        ·intro w'
         go_simp
         with_reducible rfl
        rotate_left
        ·simp only [Act.put, LsA, LsZ, LsS, i64_w, i32_w]
         rfl
        refine pure_ (i := 9) (N := some 42) (v := ?_) (a' := ?_) #[true, true, true, true, true, true, true, false, true, true, false, false, false, false, false, false, false, false, false, false, false, false, false, false, false, false, false] rfl rfl (any_of HT_.out (by kernel_rfl)) (fun _ _ _ h => h) (Or.inl ⟨by rfl, ?_⟩) ?_ ?_
        rotate_left
        ·intro w'
         go_simp
         with_reducible rfl
        rotate_left
        ·simp only [Act.put, LsA, LsZ, LsS, i64_w, i32_w]
         rfl
        refine take_ (i := 7) (N := some 40) (v := ?_) (a' := ?_) #[true, true, true, true, true, true, true, true, true, true, false, false, false, false, false, false, false, false, false, false, false, false, false, false, false, false, false] rfl rfl (take_ofW HT_.out HW_.out (by kernel_rfl)) (fun _ _ _ h => h) (Or.inl ⟨by rfl, ?_⟩) hHeld ?_ ?_
        rotate_left
        ·rintro w' ⟨s0, s1⟩
         go_simp
         with_reducible rfl
        rotate_left
        ·simp only [Act.put, LsA, LsZ, LsS, i64_w, i32_w]
         rfl
        refine one_ (i := 10) (N := some 43) #[true, true, true, true, true, true, true, true, true, true, true, false, false, false, false, false, false, false, false, false, false, false, false, false, false, false, false] rfl rfl (one_of HT_.out (by kernel_rfl)) (by decide) (fun K hK => ?_)
        refine goes_ Try.func22 (by kernel_rfl) rfl #[.agg #[.int .i64 0, .int .i64 0], .int .i64 a1] (by rfl) rfl rfl (by (try simp only [List.map_toArray, List.map_cons, List.map_nil]); first | done | rfl | (simp only [List.length_drop, List.length_take]; rfl)) ?_
        with_reducible refine (mainsheetref11_Change.calls 0 0 a1 t183 t184 _ A31.out).mono ?_
        rintro e w35 ⟨rfl, hb⟩
        refine ⟨_, rfl, ?_⟩
        have n0_ := Aside0.mk (blk_below (g := gb172) (o := .cells #[.int .i64 a0_0, .int .i64 a0_1] 23 (0, 0)) (by (with_reducible repeat (first | refine bdN ?_ _ | refine bd ?_ | refine ba ?_ _)); exact BK172.out) hb)
        have n1_ := Aside0.mk (blk_below (g := gb173) (o := .cells #[.int .i64 a2_0, .int .i64 a2_1, .int .i64 a2_2] 33 (0, 0)) (by (with_reducible repeat (first | refine bdN ?_ _ | refine bd ?_ | refine ba ?_ _)); exact BK173.out) hb)
        have n2_ := Aside0.mk (blk_below (g := gb178) (o := .cells #[.int .i64 t175, .int .i64 t176] 23 (0, 0)) (by (with_reducible repeat (first | refine bdN ?_ _ | refine bd ?_ | refine ba ?_ _)); exact BK178.out) hb)
        have n3_ := Aside0.mk (blk_below (g := gb182) (o := .cells #[.int .i64 t179, .int .i64 t180] 23 (0, 0)) (by (with_reducible repeat (first | refine bdN ?_ _ | refine bd ?_ | refine ba ?_ _)); exact BK182.out) hb)
        have n4_ := Aside0.mk (below_step (by repeat (first | (with_reducible first | exact HB.out | apply below_alloc | apply pw_below_drewN | apply below_drew1 | refine bs ?_ GE172.out | refine bs ?_ GE173.out | refine bs ?_ GE178.out | refine bs ?_ GE182.out) | exact HB.out)) hb)
        clear BK172
        clear BK173
        clear BK178
        clear BK182
        clear HB
        have BK172 := n0_
        have BK173 := n1_
        have BK178 := n2_
        have BK182 := n3_
        have HB := n4_
        clear n0_ n1_ n2_ n3_ n4_
        (try clear hb)
        (try clear hb2)
        (try clear hk)
        (try clear hi)
        refine hK.out _ _ ⟨(blk_cell BK178.out 0).trans rfl, (blk_cell BK178.out 1).trans rfl⟩ (fun hHeld => ?_)
        clear hK K
        refine norm_ (a' := ?_) ?_ ?_
        rotate_left
        ·show Act.put _ (some 43) _ = _
         simp only [Act.put, LsA, LsZ, LsS, i64_w, i32_w]
         rfl
        refine pure_ (i := 11) (N := some 44) (v := ?_) (a' := ?_) #[true, true, true, true, true, true, true, true, true, true, true, true, false, false, false, false, false, false, false, false, false, false, false, false, false, false, false] rfl rfl (any_of HT_.out (by kernel_rfl)) (fun _ _ _ h => h) (Or.inl ⟨by rfl, ?_⟩) ?_ ?_
        rotate_left
        ·intro w'
         go_simp
         with_reducible rfl
        rotate_left
        ·simp only [Act.put, LsA, LsZ, LsS, i64_w, i32_w]
         rfl
        refine pure_ (i := 12) (N := some 45) (v := ?_) (a' := ?_) #[true, true, true, true, true, true, true, true, true, true, true, true, true, false, false, false, false, false, false, false, false, false, false, false, false, false, false] rfl rfl (any_of HT_.out (by kernel_rfl)) (fun _ _ _ h => h) (Or.inl ⟨by rfl, ?_⟩) ?_ ?_
        rotate_left
        ·intro w'
         go_simp
         with_reducible rfl
        rotate_left
        ·simp only [Act.put, LsA, LsZ, LsS, i64_w, i32_w]
         rfl
        refine pure_ (i := 13) (N := some 46) (v := ?_) (a' := ?_) #[true, true, true, true, true, true, true, true, true, true, true, true, true, true, false, false, false, false, false, false, false, false, false, false, false, false, false] rfl rfl (any_of HT_.out (by kernel_rfl)) (fun _ _ _ h => h) (Or.inl ⟨by rfl, ?_⟩) ?_ ?_
        rotate_left
        ·intro w'
         go_simp
         with_reducible rfl
        rotate_left
        ·simp only [Act.put, LsA, LsZ, LsS, i64_w, i32_w]
         rfl
        refine pure_ (i := 14) (N := some 47) (v := ?_) (a' := ?_) #[true, true, true, true, true, true, true, true, true, true, true, true, true, true, true, false, false, false, false, false, false, false, false, false, false, false, false] rfl rfl (any_of HT_.out (by kernel_rfl)) (fun _ _ _ h => h) (Or.inl ⟨by rfl, ?_⟩) ?_ ?_
        rotate_left
        ·intro w'
         go_simp
         with_reducible rfl
        rotate_left
        ·simp only [Act.put, LsA, LsZ, LsS, i64_w, i32_w]
         rfl
        refine pure_ (i := 15) (N := some 48) (v := undef) (a' := ?_) #[true, true, true, true, true, true, true, true, true, true, true, true, true, true, true, true, false, false, false, false, false, false, false, false, false, false, false] rfl rfl (any_of HT_.out (by kernel_rfl)) (fun _ _ _ h => h) (Or.inr ⟨by rfl, rfl⟩) ?_ ?_
        rotate_left
        ·simp only [Act.put, LsA, LsZ, LsS, i64_w, i32_w]
         rfl
        refine pure_ (i := 16) (N := some 49) (v := undef) (a' := ?_) #[true, true, true, true, true, true, true, true, true, true, true, true, true, true, true, true, true, false, false, false, false, false, false, false, false, false, false] rfl rfl (any_of HT_.out (by kernel_rfl)) (fun _ _ _ h => h) (Or.inr ⟨by rfl, rfl⟩) ?_ ?_
        rotate_left
        ·simp only [Act.put, LsA, LsZ, LsS, i64_w, i32_w]
         rfl
        refine pure_ (i := 17) (N := some 50) (v := undef) (a' := ?_) #[true, true, true, true, true, true, true, true, true, true, true, true, true, true, true, true, true, true, false, false, false, false, false, false, false, false, false] rfl rfl (any_of HT_.out (by kernel_rfl)) (fun _ _ _ h => h) (Or.inr ⟨by rfl, rfl⟩) ?_ ?_
        rotate_left
        ·simp only [Act.put, LsA, LsZ, LsS, i64_w, i32_w]
         rfl
        refine pure_ (i := 18) (N := some 51) (v := undef) (a' := ?_) #[true, true, true, true, true, true, true, true, true, true, true, true, true, true, true, true, true, true, true, false, false, false, false, false, false, false, false] rfl rfl (any_of HT_.out (by kernel_rfl)) (fun _ _ _ h => h) (Or.inr ⟨by rfl, rfl⟩) ?_ ?_
        rotate_left
        ·simp only [Act.put, LsA, LsZ, LsS, i64_w, i32_w]
         rfl
        refine pure_ (i := 19) (N := some 52) (v := undef) (a' := ?_) #[true, true, true, true, true, true, true, true, true, true, true, true, true, true, true, true, true, true, true, true, false, false, false, false, false, false, false] rfl rfl (any_of HT_.out (by kernel_rfl)) (fun _ _ _ h => h) (Or.inr ⟨by rfl, rfl⟩) ?_ ?_
        rotate_left
        ·simp only [Act.put, LsA, LsZ, LsS, i64_w, i32_w]
         rfl
        refine pure_ (i := 20) (N := some 53) (v := undef) (a' := ?_) #[true, true, true, true, true, true, true, true, true, true, true, true, true, true, true, true, true, true, true, true, true, false, false, false, false, false, false] rfl rfl (any_of HT_.out (by kernel_rfl)) (fun _ _ _ h => h) (Or.inr ⟨by rfl, rfl⟩) ?_ ?_
        rotate_left
        ·simp only [Act.put, LsA, LsZ, LsS, i64_w, i32_w]
         rfl
        refine pure_ (i := 21) (N := some 54) (v := undef) (a' := ?_) #[true, true, true, true, true, true, true, true, true, true, true, true, true, true, true, true, true, true, true, true, true, true, false, false, false, false, false] rfl rfl (any_of HT_.out (by kernel_rfl)) (fun _ _ _ h => h) (Or.inr ⟨by rfl, rfl⟩) ?_ ?_
        rotate_left
        ·simp only [Act.put, LsA, LsZ, LsS, i64_w, i32_w]
         rfl
        refine pure_ (i := 22) (N := some 55) (v := undef) (a' := ?_) #[true, true, true, true, true, true, true, true, true, true, true, true, true, true, true, true, true, true, true, true, true, true, true, false, false, false, false] rfl rfl (any_of HT_.out (by kernel_rfl)) (fun _ _ _ h => h) (Or.inr ⟨by rfl, rfl⟩) ?_ ?_
        rotate_left
        ·simp only [Act.put, LsA, LsZ, LsS, i64_w, i32_w]
         rfl
        refine pure_ (i := 23) (N := some 56) (v := undef) (a' := ?_) #[true, true, true, true, true, true, true, true, true, true, true, true, true, true, true, true, true, true, true, true, true, true, true, true, false, false, false] rfl rfl (any_of HT_.out (by kernel_rfl)) (fun _ _ _ h => h) (Or.inr ⟨by rfl, rfl⟩) ?_ ?_
        rotate_left
        ·simp only [Act.put, LsA, LsZ, LsS, i64_w, i32_w]
         rfl
        refine pure_ (i := 24) (N := some 57) (v := undef) (a' := ?_) #[true, true, true, true, true, true, true, true, true, true, true, true, true, true, true, true, true, true, true, true, true, true, true, true, true, false, false] rfl rfl (any_of HT_.out (by kernel_rfl)) (fun _ _ _ h => h) (Or.inr ⟨by rfl, rfl⟩) ?_ ?_
        rotate_left
        ·simp only [Act.put, LsA, LsZ, LsS, i64_w, i32_w]
         rfl
        refine pure_ (i := 25) (N := some 58) (v := undef) (a' := ?_) #[true, true, true, true, true, true, true, true, true, true, true, true, true, true, true, true, true, true, true, true, true, true, true, true, true, true, false] rfl rfl (any_of HT_.out (by kernel_rfl)) (fun _ _ _ h => h) (Or.inr ⟨by rfl, rfl⟩) ?_ ?_
        rotate_left
        ·simp only [Act.put, LsA, LsZ, LsS, i64_w, i32_w]
         rfl
        refine pure_ (i := 26) (N := some 59) (v := ?_) (a' := ?_) #[true, true, true, true, true, true, true, true, true, true, true, true, true, true, true, true, true, true, true, true, true, true, true, true, true, true, true] rfl rfl (any_of HT_.out (by kernel_rfl)) (fun _ _ _ h => h) (Or.inl ⟨by rfl, ?_⟩) ?_ ?_
        rotate_left
        ·intro w'
         go_simp
         with_reducible rfl
        rotate_left
        ·simp only [Act.put, LsA, LsZ, LsS, i64_w, i32_w]
         rfl
        refine done_ (done_of HT_.out (by kernel_rfl)) ?_
        try go_wp2
        go_meet
        case rel => exact ⟨_, (true), (by first | rfl | (simp; done) | (simp [*]; done)), H', ⟨by have := HJ5.out; first | omega | exact Nat.le_refl _⟩, ⟨by (with_reducible repeat (first | refine bdN ?_ _ | refine bd ?_ | refine ba ?_ _)); exact BK172.out⟩, ⟨by (with_reducible repeat (first | refine bdN ?_ _ | refine bd ?_ | refine ba ?_ _)); exact BK173.out⟩, ⟨by (with_reducible repeat (first | refine bdN ?_ _ | refine bd ?_ | refine ba ?_ _)); exact BK178.out⟩, ⟨by (with_reducible repeat (first | refine bdN ?_ _ | refine bd ?_ | refine ba ?_ _)); exact BK182.out⟩, ⟨by repeat (first | (with_reducible first | exact HB.out | apply below_alloc | apply pw_below_drewN | apply below_drew1 | refine bs ?_ GE172.out | refine bs ?_ GE173.out | refine bs ?_ GE178.out | refine bs ?_ GE182.out) | exact HB.out)⟩⟩
       ·rw [if_neg c32] at H
        have c32b0 : (!(t175 == t183) || (!(t176 == t184))) = false := by simpa using c32
        clear c32
        have H' := Aside0.mk H
        clear H
        try go_wp2
        have n0_ : Aside0 (((w22.setCell ⟨gb182, 0, none⟩ (.int .i64 t179)).setCell ⟨gb182, 1, none⟩ (.int .i64 t180)).heap[gb172]? = some (.cells #[.int .i64 a0_0, .int .i64 a0_1] 23 (0, 0))) := ⟨by (with_reducible repeat (first | refine bdN ?_ _ | refine bd ?_ | refine ba ?_ _)); refine blk_far ?_ NB172_182.out _; (with_reducible repeat (first | refine bdN ?_ _ | refine bd ?_ | refine ba ?_ _)); refine blk_far ?_ NB172_182.out _; (with_reducible repeat (first | refine bdN ?_ _ | refine bd ?_ | refine ba ?_ _)); exact BK172.out⟩
        have n1_ : Aside0 (((w22.setCell ⟨gb182, 0, none⟩ (.int .i64 t179)).setCell ⟨gb182, 1, none⟩ (.int .i64 t180)).heap[gb173]? = some (.cells #[.int .i64 a2_0, .int .i64 a2_1, .int .i64 a2_2] 33 (0, 0))) := ⟨by (with_reducible repeat (first | refine bdN ?_ _ | refine bd ?_ | refine ba ?_ _)); refine blk_far ?_ NB173_182.out _; (with_reducible repeat (first | refine bdN ?_ _ | refine bd ?_ | refine ba ?_ _)); refine blk_far ?_ NB173_182.out _; (with_reducible repeat (first | refine bdN ?_ _ | refine bd ?_ | refine ba ?_ _)); exact BK173.out⟩
        have n2_ : Aside0 (((w22.setCell ⟨gb182, 0, none⟩ (.int .i64 t179)).setCell ⟨gb182, 1, none⟩ (.int .i64 t180)).heap[gb178]? = some (.cells #[.int .i64 t175, .int .i64 t176] 23 (0, 0))) := ⟨by (with_reducible repeat (first | refine bdN ?_ _ | refine bd ?_ | refine ba ?_ _)); refine blk_far ?_ NB178_182.out _; (with_reducible repeat (first | refine bdN ?_ _ | refine bd ?_ | refine ba ?_ _)); refine blk_far ?_ NB178_182.out _; (with_reducible repeat (first | refine bdN ?_ _ | refine bd ?_ | refine ba ?_ _)); exact BK178.out⟩
        have n3_ : Aside0 (((w22.setCell ⟨gb182, 0, none⟩ (.int .i64 t179)).setCell ⟨gb182, 1, none⟩ (.int .i64 t180)).heap[gb182]? = some (.cells #[.int .i64 t179, .int .i64 t180] 23 (0, 0))) := ⟨by (with_reducible repeat (first | refine bdN ?_ _ | refine bd ?_ | refine ba ?_ _)); refine blk_put (cs := #[.int .i64 t179, .int .i64 0]) ?_ 1 _ rfl; (with_reducible repeat (first | refine bdN ?_ _ | refine bd ?_ | refine ba ?_ _)); refine blk_put (cs := #[.int .i64 0, .int .i64 0]) ?_ 0 _ rfl; (with_reducible repeat (first | refine bdN ?_ _ | refine bd ?_ | refine ba ?_ _)); exact BK182.out⟩
        have n4_ : Aside0 (Below w.heap.size w ((w22.setCell ⟨gb182, 0, none⟩ (.int .i64 t179)).setCell ⟨gb182, 1, none⟩ (.int .i64 t180))) := ⟨by repeat (first | (with_reducible first | exact HB.out | apply below_alloc | apply pw_below_drewN | apply below_drew1 | refine bs ?_ GE172.out | refine bs ?_ GE173.out | refine bs ?_ GE178.out | refine bs ?_ GE182.out) | exact HB.out)⟩
        (try clear BK172)
        (try clear BK173)
        (try clear BK178)
        (try clear BK182)
        (try clear HB)
        generalize ((w22.setCell ⟨gb182, 0, none⟩ (.int .i64 t179)).setCell ⟨gb182, 1, none⟩ (.int .i64 t180)) = w36 at n0_ n1_ n2_ n3_ n4_ ⊢
        have BK172 := n0_
        have BK173 := n1_
        have BK178 := n2_
        have BK182 := n3_
        have HB := n4_
        clear n0_ n1_ n2_ n3_ n4_
        have n0_ := Aside0.mk (bd BK172.out)
        have n1_ := Aside0.mk (bd BK173.out)
        have n2_ := Aside0.mk (bd BK178.out)
        have n3_ := Aside0.mk (bd BK182.out)
        have n4_ := Aside0.mk (below_drew1 HB.out)
        clear BK172
        clear BK173
        clear BK178
        clear BK182
        clear HB
        have BK172 := n0_
        have BK173 := n1_
        have BK178 := n2_
        have BK182 := n3_
        have HB := n4_
        clear n0_ n1_ n2_ n3_ n4_
        refine start_ (n := 27) (S := fun w' => w'.cell? ⟨gb178, 0, none⟩ = some (.int .i64 t175) ∧ w'.cell? ⟨gb178, 1, none⟩ = some (.int .i64 t176)) (ds := []) #[false, false, false, false, false, false, false, false, false, false, false, false, false, false, false, false, false, false, false, false, false, false, false, false, false, false, false] (by kernel_rfl) rfl rfl ⟨(blk_cell BK178.out 0).trans rfl, (blk_cell BK178.out 1).trans rfl⟩ (fun hHeld => ?_); refine with_tabW mainsheetlaw11_BucketChanges.tab6 mainsheetlaw11_BucketChanges.bits6 (fun HT_ HW_ => ?_)
        generalize w36.drew = w37 at BK172 BK173 BK178 BK182 HB hHeld ⊢
        refine pure_ (i := 0) (N := some 33) (v := ?_) (a' := ?_) #[true, false, false, false, false, false, false, false, false, false, false, false, false, false, false, false, false, false, false, false, false, false, false, false, false, false, false] rfl rfl (any_of HT_.out (by kernel_rfl)) (fun _ _ _ h => h) (Or.inl ⟨by rfl, ?_⟩) ?_ ?_
        rotate_left
        ·intro w'
         go_simp
         with_reducible rfl
        rotate_left
        ·simp only [Act.put, LsA, LsZ, LsS, i64_w, i32_w]
         rfl
        refine pure_ (i := 1) (N := some 34) (v := ?_) (a' := ?_) #[true, true, false, false, false, false, false, false, false, false, false, false, false, false, false, false, false, false, false, false, false, false, false, false, false, false, false] rfl rfl (any_of HT_.out (by kernel_rfl)) (fun _ _ _ h => h) (Or.inl ⟨by rfl, ?_⟩) ?_ ?_
        rotate_left
        ·intro w'
         go_simp
         with_reducible rfl
        rotate_left
        ·simp only [Act.put, LsA, LsZ, LsS, i64_w, i32_w]
         rfl
        refine pure_ (i := 2) (N := some 35) (v := ?_) (a' := ?_) #[true, true, true, false, false, false, false, false, false, false, false, false, false, false, false, false, false, false, false, false, false, false, false, false, false, false, false] rfl rfl (any_of HT_.out (by kernel_rfl)) (fun _ _ _ h => h) (Or.inl ⟨by rfl, ?_⟩) ?_ ?_
        rotate_left
        ·intro w'
         go_simp
         with_reducible rfl
        rotate_left
        ·simp only [Act.put, LsA, LsZ, LsS, i64_w, i32_w]
         rfl
        refine pure_ (i := 3) (N := some 36) (v := ?_) (a' := ?_) #[true, true, true, true, false, false, false, false, false, false, false, false, false, false, false, false, false, false, false, false, false, false, false, false, false, false, false] rfl rfl (any_of HT_.out (by kernel_rfl)) (fun _ _ _ h => h) (Or.inl ⟨by rfl, ?_⟩) ?_ ?_
        rotate_left
        ·intro w'
         go_simp
         with_reducible rfl
        rotate_left
        ·simp only [Act.put, LsA, LsZ, LsS, i64_w, i32_w]
         rfl
        refine pure_ (i := 4) (N := some 37) (v := ?_) (a' := ?_) #[true, true, true, true, true, false, false, false, false, false, false, false, false, false, false, false, false, false, false, false, false, false, false, false, false, false, false] rfl rfl (any_of HT_.out (by kernel_rfl)) (fun _ _ _ h => h) (Or.inl ⟨by rfl, ?_⟩) ?_ ?_
        rotate_left
        ·intro w'
         go_simp
         with_reducible rfl
        rotate_left
        ·simp only [Act.put, LsA, LsZ, LsS, i64_w, i32_w]
         rfl
        refine pure_ (i := 5) (N := some 38) (v := ?_) (a' := ?_) #[true, true, true, true, true, true, false, false, false, false, false, false, false, false, false, false, false, false, false, false, false, false, false, false, false, false, false] rfl rfl (any_of HT_.out (by kernel_rfl)) (fun _ _ _ h => h) (Or.inl ⟨by rfl, ?_⟩) ?_ ?_
        rotate_left
        ·intro w'
         go_simp
         with_reducible rfl
        rotate_left
        ·simp only [Act.put, LsA, LsZ, LsS, i64_w, i32_w]
         rfl
        refine pure_ (i := 6) (N := some 39) (v := ?_) (a' := ?_) #[true, true, true, true, true, true, true, false, false, false, false, false, false, false, false, false, false, false, false, false, false, false, false, false, false, false, false] rfl rfl (any_of HT_.out (by kernel_rfl)) (fun _ _ _ h => h) (Or.inl ⟨by rfl, ?_⟩) ?_ ?_
        rotate_left
        ·intro w'
         go_simp
         with_reducible rfl
        rotate_left
        ·simp only [Act.put, LsA, LsZ, LsS, i64_w, i32_w]
         rfl
        refine pure_ (i := 8) (N := some 41) (v := ?_) (a' := ?_) #[true, true, true, true, true, true, true, false, true, false, false, false, false, false, false, false, false, false, false, false, false, false, false, false, false, false, false] rfl rfl (any_of HT_.out (by kernel_rfl)) (fun _ _ _ h => h) (Or.inl ⟨by rfl, ?_⟩) ?_ ?_
        rotate_left
        ·intro w'
         go_simp
         with_reducible rfl
        rotate_left
        ·simp only [Act.put, LsA, LsZ, LsS, i64_w, i32_w]
         rfl
        refine pure_ (i := 9) (N := some 42) (v := ?_) (a' := ?_) #[true, true, true, true, true, true, true, false, true, true, false, false, false, false, false, false, false, false, false, false, false, false, false, false, false, false, false] rfl rfl (any_of HT_.out (by kernel_rfl)) (fun _ _ _ h => h) (Or.inl ⟨by rfl, ?_⟩) ?_ ?_
        rotate_left
        ·intro w'
         go_simp
         with_reducible rfl
        rotate_left
        ·simp only [Act.put, LsA, LsZ, LsS, i64_w, i32_w]
         rfl
        refine take_ (i := 7) (N := some 40) (v := ?_) (a' := ?_) #[true, true, true, true, true, true, true, true, true, true, false, false, false, false, false, false, false, false, false, false, false, false, false, false, false, false, false] rfl rfl (take_ofW HT_.out HW_.out (by kernel_rfl)) (fun _ _ _ h => h) (Or.inl ⟨by rfl, ?_⟩) hHeld ?_ ?_
        rotate_left
        ·rintro w' ⟨s0, s1⟩
         go_simp
         with_reducible rfl
        rotate_left
        ·simp only [Act.put, LsA, LsZ, LsS, i64_w, i32_w]
         rfl
        refine one_ (i := 10) (N := some 43) #[true, true, true, true, true, true, true, true, true, true, true, false, false, false, false, false, false, false, false, false, false, false, false, false, false, false, false] rfl rfl (one_of HT_.out (by kernel_rfl)) (by decide) (fun K hK => ?_)
        refine goes_ Try.func22 (by kernel_rfl) rfl #[.agg #[.int .i64 0, .int .i64 0], .int .i64 a1] (by rfl) rfl rfl (by (try simp only [List.map_toArray, List.map_cons, List.map_nil]); first | done | rfl | (simp only [List.length_drop, List.length_take]; rfl)) ?_
        with_reducible refine (mainsheetref11_Change.calls 0 0 a1 t183 t184 _ A31.out).mono ?_
        rintro e w38 ⟨rfl, hb⟩
        refine ⟨_, rfl, ?_⟩
        have n0_ := Aside0.mk (blk_below (g := gb172) (o := .cells #[.int .i64 a0_0, .int .i64 a0_1] 23 (0, 0)) (by (with_reducible repeat (first | refine bdN ?_ _ | refine bd ?_ | refine ba ?_ _)); exact BK172.out) hb)
        have n1_ := Aside0.mk (blk_below (g := gb173) (o := .cells #[.int .i64 a2_0, .int .i64 a2_1, .int .i64 a2_2] 33 (0, 0)) (by (with_reducible repeat (first | refine bdN ?_ _ | refine bd ?_ | refine ba ?_ _)); exact BK173.out) hb)
        have n2_ := Aside0.mk (blk_below (g := gb178) (o := .cells #[.int .i64 t175, .int .i64 t176] 23 (0, 0)) (by (with_reducible repeat (first | refine bdN ?_ _ | refine bd ?_ | refine ba ?_ _)); exact BK178.out) hb)
        have n3_ := Aside0.mk (blk_below (g := gb182) (o := .cells #[.int .i64 t179, .int .i64 t180] 23 (0, 0)) (by (with_reducible repeat (first | refine bdN ?_ _ | refine bd ?_ | refine ba ?_ _)); exact BK182.out) hb)
        have n4_ := Aside0.mk (below_step (by repeat (first | (with_reducible first | exact HB.out | apply below_alloc | apply pw_below_drewN | apply below_drew1 | refine bs ?_ GE172.out | refine bs ?_ GE173.out | refine bs ?_ GE178.out | refine bs ?_ GE182.out) | exact HB.out)) hb)
        clear BK172
        clear BK173
        clear BK178
        clear BK182
        clear HB
        have BK172 := n0_
        have BK173 := n1_
        have BK178 := n2_
        have BK182 := n3_
        have HB := n4_
        clear n0_ n1_ n2_ n3_ n4_
        (try clear hb)
        (try clear hb2)
        (try clear hk)
        (try clear hi)
        refine hK.out _ _ ⟨(blk_cell BK178.out 0).trans rfl, (blk_cell BK178.out 1).trans rfl⟩ (fun hHeld => ?_)
        clear hK K
        refine norm_ (a' := ?_) ?_ ?_
        rotate_left
        ·show Act.put _ (some 43) _ = _
         simp only [Act.put, LsA, LsZ, LsS, i64_w, i32_w]
         rfl
        refine pure_ (i := 11) (N := some 44) (v := ?_) (a' := ?_) #[true, true, true, true, true, true, true, true, true, true, true, true, false, false, false, false, false, false, false, false, false, false, false, false, false, false, false] rfl rfl (any_of HT_.out (by kernel_rfl)) (fun _ _ _ h => h) (Or.inl ⟨by rfl, ?_⟩) ?_ ?_
        rotate_left
        ·intro w'
         go_simp
         with_reducible rfl
        rotate_left
        ·simp only [Act.put, LsA, LsZ, LsS, i64_w, i32_w]
         rfl
        refine pure_ (i := 12) (N := some 45) (v := ?_) (a' := ?_) #[true, true, true, true, true, true, true, true, true, true, true, true, true, false, false, false, false, false, false, false, false, false, false, false, false, false, false] rfl rfl (any_of HT_.out (by kernel_rfl)) (fun _ _ _ h => h) (Or.inl ⟨by rfl, ?_⟩) ?_ ?_
        rotate_left
        ·intro w'
         go_simp
         with_reducible rfl
        rotate_left
        ·simp only [Act.put, LsA, LsZ, LsS, i64_w, i32_w]
         rfl
        refine pure_ (i := 13) (N := some 46) (v := ?_) (a' := ?_) #[true, true, true, true, true, true, true, true, true, true, true, true, true, true, false, false, false, false, false, false, false, false, false, false, false, false, false] rfl rfl (any_of HT_.out (by kernel_rfl)) (fun _ _ _ h => h) (Or.inl ⟨by rfl, ?_⟩) ?_ ?_
        rotate_left
        ·intro w'
         go_simp
         with_reducible rfl
        rotate_left
        ·simp only [Act.put, LsA, LsZ, LsS, i64_w, i32_w]
         rfl
        refine pure_ (i := 14) (N := some 47) (v := ?_) (a' := ?_) #[true, true, true, true, true, true, true, true, true, true, true, true, true, true, true, false, false, false, false, false, false, false, false, false, false, false, false] rfl rfl (any_of HT_.out (by kernel_rfl)) (fun _ _ _ h => h) (Or.inl ⟨by rfl, ?_⟩) ?_ ?_
        rotate_left
        ·intro w'
         go_simp
         with_reducible rfl
        rotate_left
        ·simp only [Act.put, LsA, LsZ, LsS, i64_w, i32_w]
         rfl
        refine pure_ (i := 15) (N := some 48) (v := ?_) (a' := ?_) #[true, true, true, true, true, true, true, true, true, true, true, true, true, true, true, true, false, false, false, false, false, false, false, false, false, false, false] rfl rfl (any_of HT_.out (by kernel_rfl)) (fun _ _ _ h => h) (Or.inl ⟨by rfl, ?_⟩) ?_ ?_
        rotate_left
        ·intro w'
         go_simp
         with_reducible rfl
        rotate_left
        ·simp only [Act.put, LsA, LsZ, LsS, i64_w, i32_w]
         rfl
        refine pure_ (i := 16) (N := some 49) (v := ?_) (a' := ?_) #[true, true, true, true, true, true, true, true, true, true, true, true, true, true, true, true, true, false, false, false, false, false, false, false, false, false, false] rfl rfl (any_of HT_.out (by kernel_rfl)) (fun _ _ _ h => h) (Or.inl ⟨by rfl, ?_⟩) ?_ ?_
        rotate_left
        ·intro w'
         go_simp
         with_reducible rfl
        rotate_left
        ·simp only [Act.put, LsA, LsZ, LsS, i64_w, i32_w]
         rfl
        refine pure_ (i := 17) (N := some 50) (v := ?_) (a' := ?_) #[true, true, true, true, true, true, true, true, true, true, true, true, true, true, true, true, true, true, false, false, false, false, false, false, false, false, false] rfl rfl (any_of HT_.out (by kernel_rfl)) (fun _ _ _ h => h) (Or.inl ⟨by rfl, ?_⟩) ?_ ?_
        rotate_left
        ·intro w'
         go_simp
         with_reducible rfl
        rotate_left
        ·simp only [Act.put, LsA, LsZ, LsS, i64_w, i32_w]
         rfl
        refine pure_ (i := 18) (N := some 51) (v := undef) (a' := ?_) #[true, true, true, true, true, true, true, true, true, true, true, true, true, true, true, true, true, true, true, false, false, false, false, false, false, false, false] rfl rfl (any_of HT_.out (by kernel_rfl)) (fun _ _ _ h => h) (Or.inr ⟨by rfl, rfl⟩) ?_ ?_
        rotate_left
        ·simp only [Act.put, LsA, LsZ, LsS, i64_w, i32_w]
         rfl
        refine pure_ (i := 19) (N := some 52) (v := undef) (a' := ?_) #[true, true, true, true, true, true, true, true, true, true, true, true, true, true, true, true, true, true, true, true, false, false, false, false, false, false, false] rfl rfl (any_of HT_.out (by kernel_rfl)) (fun _ _ _ h => h) (Or.inr ⟨by rfl, rfl⟩) ?_ ?_
        rotate_left
        ·simp only [Act.put, LsA, LsZ, LsS, i64_w, i32_w]
         rfl
        refine pure_ (i := 20) (N := some 53) (v := undef) (a' := ?_) #[true, true, true, true, true, true, true, true, true, true, true, true, true, true, true, true, true, true, true, true, true, false, false, false, false, false, false] rfl rfl (any_of HT_.out (by kernel_rfl)) (fun _ _ _ h => h) (Or.inr ⟨by rfl, rfl⟩) ?_ ?_
        rotate_left
        ·simp only [Act.put, LsA, LsZ, LsS, i64_w, i32_w]
         rfl
        refine pure_ (i := 21) (N := some 54) (v := undef) (a' := ?_) #[true, true, true, true, true, true, true, true, true, true, true, true, true, true, true, true, true, true, true, true, true, true, false, false, false, false, false] rfl rfl (any_of HT_.out (by kernel_rfl)) (fun _ _ _ h => h) (Or.inr ⟨by rfl, rfl⟩) ?_ ?_
        rotate_left
        ·simp only [Act.put, LsA, LsZ, LsS, i64_w, i32_w]
         rfl
        refine pure_ (i := 22) (N := some 55) (v := undef) (a' := ?_) #[true, true, true, true, true, true, true, true, true, true, true, true, true, true, true, true, true, true, true, true, true, true, true, false, false, false, false] rfl rfl (any_of HT_.out (by kernel_rfl)) (fun _ _ _ h => h) (Or.inr ⟨by rfl, rfl⟩) ?_ ?_
        rotate_left
        ·simp only [Act.put, LsA, LsZ, LsS, i64_w, i32_w]
         rfl
        refine pure_ (i := 23) (N := some 56) (v := undef) (a' := ?_) #[true, true, true, true, true, true, true, true, true, true, true, true, true, true, true, true, true, true, true, true, true, true, true, true, false, false, false] rfl rfl (any_of HT_.out (by kernel_rfl)) (fun _ _ _ h => h) (Or.inr ⟨by rfl, rfl⟩) ?_ ?_
        rotate_left
        ·simp only [Act.put, LsA, LsZ, LsS, i64_w, i32_w]
         rfl
        refine pure_ (i := 24) (N := some 57) (v := undef) (a' := ?_) #[true, true, true, true, true, true, true, true, true, true, true, true, true, true, true, true, true, true, true, true, true, true, true, true, true, false, false] rfl rfl (any_of HT_.out (by kernel_rfl)) (fun _ _ _ h => h) (Or.inr ⟨by rfl, rfl⟩) ?_ ?_
        rotate_left
        ·simp only [Act.put, LsA, LsZ, LsS, i64_w, i32_w]
         rfl
        refine pure_ (i := 25) (N := some 58) (v := ?_) (a' := ?_) #[true, true, true, true, true, true, true, true, true, true, true, true, true, true, true, true, true, true, true, true, true, true, true, true, true, true, false] rfl rfl (any_of HT_.out (by kernel_rfl)) (fun _ _ _ h => h) (Or.inl ⟨by rfl, ?_⟩) ?_ ?_
        rotate_left
        ·intro w'
         go_simp
         with_reducible rfl
        rotate_left
        ·simp only [Act.put, LsA, LsZ, LsS, i64_w, i32_w]
         rfl
        refine pure_ (i := 26) (N := some 59) (v := ?_) (a' := ?_) #[true, true, true, true, true, true, true, true, true, true, true, true, true, true, true, true, true, true, true, true, true, true, true, true, true, true, true] rfl rfl (any_of HT_.out (by kernel_rfl)) (fun _ _ _ h => h) (Or.inl ⟨by rfl, ?_⟩) ?_ ?_
        rotate_left
        ·intro w'
         go_simp
         with_reducible rfl
        rotate_left
        ·simp only [Act.put, LsA, LsZ, LsS, i64_w, i32_w]
         rfl
        refine done_ (done_of HT_.out (by kernel_rfl)) ?_
        try go_wp2
        go_meet
        case rel => exact ⟨_, (false), (by first | rfl | (simp; done) | (simp [*]; done)), H', ⟨by have := HJ5.out; first | omega | exact Nat.le_refl _⟩, ⟨by (with_reducible repeat (first | refine bdN ?_ _ | refine bd ?_ | refine ba ?_ _)); exact BK172.out⟩, ⟨by (with_reducible repeat (first | refine bdN ?_ _ | refine bd ?_ | refine ba ?_ _)); exact BK173.out⟩, ⟨by (with_reducible repeat (first | refine bdN ?_ _ | refine bd ?_ | refine ba ?_ _)); exact BK178.out⟩, ⟨by (with_reducible repeat (first | refine bdN ?_ _ | refine bd ?_ | refine ba ?_ _)); exact BK182.out⟩, ⟨by repeat (first | (with_reducible first | exact HB.out | apply below_alloc | apply pw_below_drewN | apply below_drew1 | refine bs ?_ GE172.out | refine bs ?_ GE173.out | refine bs ?_ GE178.out | refine bs ?_ GE182.out) | exact HB.out)⟩⟩
      ·replace c30 := Bool.eq_false_iff.mpr c30
       subst c30
       have H1 : (if (!(t175 == 0) || (!(t176 == 0))) = true then (mainsheetlaw11_BucketChanges.j1 kj5 a1 false t181 true a0_0 a0_1 a2_0 a2_1 a2_2 t179 t180) else (mainsheetlaw11_BucketChanges.j1 kj5 a1 false t181 (t177 != 2) a0_0 a0_1 a2_0 a2_1 a2_2 t179 t180)) = some r := by rw [if_neg (show ¬ (false = true) by decide)] at H; exact H
       clear H
       have H := H1
       clear H1
       by_cases c39 : (!(t175 == 0) || (!(t176 == 0))) = true
       ·rw [if_pos c39] at H
        have c39b0 : (!(t175 == 0) || (!(t176 == 0))) = true := c39
        clear c39
        have H' := Aside0.mk H
        clear H
        try go_wp2
        have n0_ : Aside0 (((w22.setCell ⟨gb182, 0, none⟩ (.int .i64 t179)).setCell ⟨gb182, 1, none⟩ (.int .i64 t180)).heap[gb172]? = some (.cells #[.int .i64 a0_0, .int .i64 a0_1] 23 (0, 0))) := ⟨by (with_reducible repeat (first | refine bdN ?_ _ | refine bd ?_ | refine ba ?_ _)); refine blk_far ?_ NB172_182.out _; (with_reducible repeat (first | refine bdN ?_ _ | refine bd ?_ | refine ba ?_ _)); refine blk_far ?_ NB172_182.out _; (with_reducible repeat (first | refine bdN ?_ _ | refine bd ?_ | refine ba ?_ _)); exact BK172.out⟩
        have n1_ : Aside0 (((w22.setCell ⟨gb182, 0, none⟩ (.int .i64 t179)).setCell ⟨gb182, 1, none⟩ (.int .i64 t180)).heap[gb173]? = some (.cells #[.int .i64 a2_0, .int .i64 a2_1, .int .i64 a2_2] 33 (0, 0))) := ⟨by (with_reducible repeat (first | refine bdN ?_ _ | refine bd ?_ | refine ba ?_ _)); refine blk_far ?_ NB173_182.out _; (with_reducible repeat (first | refine bdN ?_ _ | refine bd ?_ | refine ba ?_ _)); refine blk_far ?_ NB173_182.out _; (with_reducible repeat (first | refine bdN ?_ _ | refine bd ?_ | refine ba ?_ _)); exact BK173.out⟩
        have n2_ : Aside0 (((w22.setCell ⟨gb182, 0, none⟩ (.int .i64 t179)).setCell ⟨gb182, 1, none⟩ (.int .i64 t180)).heap[gb178]? = some (.cells #[.int .i64 t175, .int .i64 t176] 23 (0, 0))) := ⟨by (with_reducible repeat (first | refine bdN ?_ _ | refine bd ?_ | refine ba ?_ _)); refine blk_far ?_ NB178_182.out _; (with_reducible repeat (first | refine bdN ?_ _ | refine bd ?_ | refine ba ?_ _)); refine blk_far ?_ NB178_182.out _; (with_reducible repeat (first | refine bdN ?_ _ | refine bd ?_ | refine ba ?_ _)); exact BK178.out⟩
        have n3_ : Aside0 (((w22.setCell ⟨gb182, 0, none⟩ (.int .i64 t179)).setCell ⟨gb182, 1, none⟩ (.int .i64 t180)).heap[gb182]? = some (.cells #[.int .i64 t179, .int .i64 t180] 23 (0, 0))) := ⟨by (with_reducible repeat (first | refine bdN ?_ _ | refine bd ?_ | refine ba ?_ _)); refine blk_put (cs := #[.int .i64 t179, .int .i64 0]) ?_ 1 _ rfl; (with_reducible repeat (first | refine bdN ?_ _ | refine bd ?_ | refine ba ?_ _)); refine blk_put (cs := #[.int .i64 0, .int .i64 0]) ?_ 0 _ rfl; (with_reducible repeat (first | refine bdN ?_ _ | refine bd ?_ | refine ba ?_ _)); exact BK182.out⟩
        have n4_ : Aside0 (Below w.heap.size w ((w22.setCell ⟨gb182, 0, none⟩ (.int .i64 t179)).setCell ⟨gb182, 1, none⟩ (.int .i64 t180))) := ⟨by repeat (first | (with_reducible first | exact HB.out | apply below_alloc | apply pw_below_drewN | apply below_drew1 | refine bs ?_ GE172.out | refine bs ?_ GE173.out | refine bs ?_ GE178.out | refine bs ?_ GE182.out) | exact HB.out)⟩
        (try clear BK172)
        (try clear BK173)
        (try clear BK178)
        (try clear BK182)
        (try clear HB)
        generalize ((w22.setCell ⟨gb182, 0, none⟩ (.int .i64 t179)).setCell ⟨gb182, 1, none⟩ (.int .i64 t180)) = w40 at n0_ n1_ n2_ n3_ n4_ ⊢
        have BK172 := n0_
        have BK173 := n1_
        have BK178 := n2_
        have BK182 := n3_
        have HB := n4_
        clear n0_ n1_ n2_ n3_ n4_
        have n0_ := Aside0.mk (bd BK172.out)
        have n1_ := Aside0.mk (bd BK173.out)
        have n2_ := Aside0.mk (bd BK178.out)
        have n3_ := Aside0.mk (bd BK182.out)
        have n4_ := Aside0.mk (below_drew1 HB.out)
        clear BK172
        clear BK173
        clear BK178
        clear BK182
        clear HB
        have BK172 := n0_
        have BK173 := n1_
        have BK178 := n2_
        have BK182 := n3_
        have HB := n4_
        clear n0_ n1_ n2_ n3_ n4_
        refine start_ (n := 27) (S := fun w' => w'.cell? ⟨gb178, 0, none⟩ = some (.int .i64 t175) ∧ w'.cell? ⟨gb178, 1, none⟩ = some (.int .i64 t176)) (ds := []) #[false, false, false, false, false, false, false, false, false, false, false, false, false, false, false, false, false, false, false, false, false, false, false, false, false, false, false] (by kernel_rfl) rfl rfl ⟨(blk_cell BK178.out 0).trans rfl, (blk_cell BK178.out 1).trans rfl⟩ (fun hHeld => ?_); refine with_tabW mainsheetlaw11_BucketChanges.tab6 mainsheetlaw11_BucketChanges.bits6 (fun HT_ HW_ => ?_)
        generalize w40.drew = w41 at BK172 BK173 BK178 BK182 HB hHeld ⊢
        refine pure_ (i := 0) (N := some 33) (v := ?_) (a' := ?_) #[true, false, false, false, false, false, false, false, false, false, false, false, false, false, false, false, false, false, false, false, false, false, false, false, false, false, false] rfl rfl (any_of HT_.out (by kernel_rfl)) (fun _ _ _ h => h) (Or.inl ⟨by rfl, ?_⟩) ?_ ?_
        rotate_left
        ·intro w'
         go_simp
         with_reducible rfl
        rotate_left
        ·simp only [Act.put, LsA, LsZ, LsS, i64_w, i32_w]
         rfl
        refine pure_ (i := 1) (N := some 34) (v := ?_) (a' := ?_) #[true, true, false, false, false, false, false, false, false, false, false, false, false, false, false, false, false, false, false, false, false, false, false, false, false, false, false] rfl rfl (any_of HT_.out (by kernel_rfl)) (fun _ _ _ h => h) (Or.inl ⟨by rfl, ?_⟩) ?_ ?_
        rotate_left
        ·intro w'
         go_simp
         with_reducible rfl
        rotate_left
        ·simp only [Act.put, LsA, LsZ, LsS, i64_w, i32_w]
         rfl
        refine pure_ (i := 2) (N := some 35) (v := ?_) (a' := ?_) #[true, true, true, false, false, false, false, false, false, false, false, false, false, false, false, false, false, false, false, false, false, false, false, false, false, false, false] rfl rfl (any_of HT_.out (by kernel_rfl)) (fun _ _ _ h => h) (Or.inl ⟨by rfl, ?_⟩) ?_ ?_
        rotate_left
        ·intro w'
         go_simp
         with_reducible rfl
        rotate_left
        ·simp only [Act.put, LsA, LsZ, LsS, i64_w, i32_w]
         rfl
        refine pure_ (i := 3) (N := some 36) (v := ?_) (a' := ?_) #[true, true, true, true, false, false, false, false, false, false, false, false, false, false, false, false, false, false, false, false, false, false, false, false, false, false, false] rfl rfl (any_of HT_.out (by kernel_rfl)) (fun _ _ _ h => h) (Or.inl ⟨by rfl, ?_⟩) ?_ ?_
        rotate_left
        ·intro w'
         go_simp
         with_reducible rfl
        rotate_left
        ·simp only [Act.put, LsA, LsZ, LsS, i64_w, i32_w]
         rfl
        refine pure_ (i := 4) (N := some 37) (v := ?_) (a' := ?_) #[true, true, true, true, true, false, false, false, false, false, false, false, false, false, false, false, false, false, false, false, false, false, false, false, false, false, false] rfl rfl (any_of HT_.out (by kernel_rfl)) (fun _ _ _ h => h) (Or.inl ⟨by rfl, ?_⟩) ?_ ?_
        rotate_left
        ·intro w'
         go_simp
         with_reducible rfl
        rotate_left
        ·simp only [Act.put, LsA, LsZ, LsS, i64_w, i32_w]
         rfl
        refine pure_ (i := 5) (N := some 38) (v := ?_) (a' := ?_) #[true, true, true, true, true, true, false, false, false, false, false, false, false, false, false, false, false, false, false, false, false, false, false, false, false, false, false] rfl rfl (any_of HT_.out (by kernel_rfl)) (fun _ _ _ h => h) (Or.inl ⟨by rfl, ?_⟩) ?_ ?_
        rotate_left
        ·intro w'
         go_simp
         with_reducible rfl
        rotate_left
        ·simp only [Act.put, LsA, LsZ, LsS, i64_w, i32_w]
         rfl
        refine pure_ (i := 6) (N := some 39) (v := ?_) (a' := ?_) #[true, true, true, true, true, true, true, false, false, false, false, false, false, false, false, false, false, false, false, false, false, false, false, false, false, false, false] rfl rfl (any_of HT_.out (by kernel_rfl)) (fun _ _ _ h => h) (Or.inl ⟨by rfl, ?_⟩) ?_ ?_
        rotate_left
        ·intro w'
         go_simp
         with_reducible rfl
        rotate_left
        ·simp only [Act.put, LsA, LsZ, LsS, i64_w, i32_w]
         rfl
        refine pure_ (i := 7) (N := some 40) (v := undef) (a' := ?_) #[true, true, true, true, true, true, true, true, false, false, false, false, false, false, false, false, false, false, false, false, false, false, false, false, false, false, false] rfl rfl (any_of HT_.out (by kernel_rfl)) (fun _ _ _ h => h) (Or.inr ⟨by rfl, rfl⟩) ?_ ?_
        rotate_left
        ·simp only [Act.put, LsA, LsZ, LsS, i64_w, i32_w]
         rfl
        refine pure_ (i := 8) (N := some 41) (v := undef) (a' := ?_) #[true, true, true, true, true, true, true, true, true, false, false, false, false, false, false, false, false, false, false, false, false, false, false, false, false, false, false] rfl rfl (any_of HT_.out (by kernel_rfl)) (fun _ _ _ h => h) (Or.inr ⟨by rfl, rfl⟩) ?_ ?_
        rotate_left
        ·simp only [Act.put, LsA, LsZ, LsS, i64_w, i32_w]
         rfl
        refine pure_ (i := 9) (N := some 42) (v := undef) (a' := ?_) #[true, true, true, true, true, true, true, true, true, true, false, false, false, false, false, false, false, false, false, false, false, false, false, false, false, false, false] rfl rfl (any_of HT_.out (by kernel_rfl)) (fun _ _ _ h => h) (Or.inr ⟨by rfl, rfl⟩) ?_ ?_
        rotate_left
        ·simp only [Act.put, LsA, LsZ, LsS, i64_w, i32_w]
         rfl
        refine pure_ (i := 10) (N := some 43) (v := undef) (a' := ?_) #[true, true, true, true, true, true, true, true, true, true, true, false, false, false, false, false, false, false, false, false, false, false, false, false, false, false, false] rfl rfl (any_of HT_.out (by kernel_rfl)) (fun _ _ _ h => h) (Or.inr ⟨by rfl, rfl⟩) ?_ ?_
        rotate_left
        ·simp only [Act.put, LsA, LsZ, LsS, i64_w, i32_w]
         rfl
        refine pure_ (i := 11) (N := some 44) (v := undef) (a' := ?_) #[true, true, true, true, true, true, true, true, true, true, true, true, false, false, false, false, false, false, false, false, false, false, false, false, false, false, false] rfl rfl (any_of HT_.out (by kernel_rfl)) (fun _ _ _ h => h) (Or.inr ⟨by rfl, rfl⟩) ?_ ?_
        rotate_left
        ·simp only [Act.put, LsA, LsZ, LsS, i64_w, i32_w]
         rfl
        refine pure_ (i := 12) (N := some 45) (v := ?_) (a' := ?_) #[true, true, true, true, true, true, true, true, true, true, true, true, true, false, false, false, false, false, false, false, false, false, false, false, false, false, false] rfl rfl (any_of HT_.out (by kernel_rfl)) (fun _ _ _ h => h) (Or.inl ⟨by rfl, ?_⟩) ?_ ?_
        rotate_left
        ·intro w'
         go_simp
         with_reducible rfl
        rotate_left
        ·simp only [Act.put, LsA, LsZ, LsS, i64_w, i32_w]
         rfl
        refine pure_ (i := 13) (N := some 46) (v := ?_) (a' := ?_) #[true, true, true, true, true, true, true, true, true, true, true, true, true, true, false, false, false, false, false, false, false, false, false, false, false, false, false] rfl rfl (any_of HT_.out (by kernel_rfl)) (fun _ _ _ h => h) (Or.inl ⟨by rfl, ?_⟩) ?_ ?_
        rotate_left
        ·intro w'
         go_simp
         with_reducible rfl
        rotate_left
        ·simp only [Act.put, LsA, LsZ, LsS, i64_w, i32_w]
         rfl
        refine pure_ (i := 14) (N := some 47) (v := ?_) (a' := ?_) #[true, true, true, true, true, true, true, true, true, true, true, true, true, true, true, false, false, false, false, false, false, false, false, false, false, false, false] rfl rfl (any_of HT_.out (by kernel_rfl)) (fun _ _ _ h => h) (Or.inl ⟨by rfl, ?_⟩) ?_ ?_
        rotate_left
        ·intro w'
         go_simp
         with_reducible rfl
        rotate_left
        ·simp only [Act.put, LsA, LsZ, LsS, i64_w, i32_w]
         rfl
        refine pure_ (i := 15) (N := some 48) (v := ?_) (a' := ?_) #[true, true, true, true, true, true, true, true, true, true, true, true, true, true, true, true, false, false, false, false, false, false, false, false, false, false, false] rfl rfl (any_of HT_.out (by kernel_rfl)) (fun _ _ _ h => h) (Or.inl ⟨by rfl, ?_⟩) ?_ ?_
        rotate_left
        ·intro w'
         go_simp
         with_reducible rfl
        rotate_left
        ·simp only [Act.put, LsA, LsZ, LsS, i64_w, i32_w]
         rfl
        refine pure_ (i := 16) (N := some 49) (v := ?_) (a' := ?_) #[true, true, true, true, true, true, true, true, true, true, true, true, true, true, true, true, true, false, false, false, false, false, false, false, false, false, false] rfl rfl (any_of HT_.out (by kernel_rfl)) (fun _ _ _ h => h) (Or.inl ⟨by rfl, ?_⟩) ?_ ?_
        rotate_left
        ·intro w'
         go_simp
         with_reducible rfl
        rotate_left
        ·simp only [Act.put, LsA, LsZ, LsS, i64_w, i32_w]
         rfl
        refine pure_ (i := 17) (N := some 50) (v := ?_) (a' := ?_) #[true, true, true, true, true, true, true, true, true, true, true, true, true, true, true, true, true, true, false, false, false, false, false, false, false, false, false] rfl rfl (any_of HT_.out (by kernel_rfl)) (fun _ _ _ h => h) (Or.inl ⟨by rfl, ?_⟩) ?_ ?_
        rotate_left
        ·intro w'
         go_simp
         with_reducible rfl
        rotate_left
        ·simp only [Act.put, LsA, LsZ, LsS, i64_w, i32_w]
         rfl
        refine pure_ (i := 19) (N := some 52) (v := ?_) (a' := ?_) #[true, true, true, true, true, true, true, true, true, true, true, true, true, true, true, true, true, true, false, true, false, false, false, false, false, false, false] rfl rfl (any_of HT_.out (by kernel_rfl)) (fun _ _ _ h => h) (Or.inl ⟨by rfl, ?_⟩) ?_ ?_
        rotate_left
        ·intro w'
         go_simp
         with_reducible rfl
        rotate_left
        ·simp only [Act.put, LsA, LsZ, LsS, i64_w, i32_w]
         rfl
        refine take_ (i := 18) (N := some 51) (v := ?_) (a' := ?_) #[true, true, true, true, true, true, true, true, true, true, true, true, true, true, true, true, true, true, true, true, false, false, false, false, false, false, false] rfl rfl (take_ofW HT_.out HW_.out (by kernel_rfl)) (fun _ _ _ h => h) (Or.inl ⟨by rfl, ?_⟩) hHeld ?_ ?_
        rotate_left
        ·rintro w' ⟨s0, s1⟩
         go_simp
         with_reducible rfl
        rotate_left
        ·simp only [Act.put, LsA, LsZ, LsS, i64_w, i32_w]
         rfl
        refine pure_ (i := 20) (N := some 53) (v := ?_) (a' := ?_) #[true, true, true, true, true, true, true, true, true, true, true, true, true, true, true, true, true, true, true, true, true, false, false, false, false, false, false] rfl rfl (any_of HT_.out (by kernel_rfl)) (fun _ _ _ h => h) (Or.inl ⟨by rfl, ?_⟩) ?_ ?_
        rotate_left
        ·intro w'
         go_simp
         with_reducible rfl
        rotate_left
        ·simp only [Act.put, LsA, LsZ, LsS, i64_w, i32_w]
         rfl
        refine pure_ (i := 21) (N := some 54) (v := ?_) (a' := ?_) #[true, true, true, true, true, true, true, true, true, true, true, true, true, true, true, true, true, true, true, true, true, true, false, false, false, false, false] rfl rfl (any_of HT_.out (by kernel_rfl)) (fun _ _ _ h => h) (Or.inl ⟨by rfl, ?_⟩) ?_ ?_
        rotate_left
        ·intro w'
         go_simp
         with_reducible rfl
        rotate_left
        ·simp only [Act.put, LsA, LsZ, LsS, i64_w, i32_w]
         rfl
        refine pure_ (i := 22) (N := some 55) (v := undef) (a' := ?_) #[true, true, true, true, true, true, true, true, true, true, true, true, true, true, true, true, true, true, true, true, true, true, true, false, false, false, false] rfl rfl (any_of HT_.out (by kernel_rfl)) (fun _ _ _ h => h) (Or.inr ⟨by rfl, rfl⟩) ?_ ?_
        rotate_left
        ·simp only [Act.put, LsA, LsZ, LsS, i64_w, i32_w]
         rfl
        refine pure_ (i := 23) (N := some 56) (v := undef) (a' := ?_) #[true, true, true, true, true, true, true, true, true, true, true, true, true, true, true, true, true, true, true, true, true, true, true, true, false, false, false] rfl rfl (any_of HT_.out (by kernel_rfl)) (fun _ _ _ h => h) (Or.inr ⟨by rfl, rfl⟩) ?_ ?_
        rotate_left
        ·simp only [Act.put, LsA, LsZ, LsS, i64_w, i32_w]
         rfl
        refine pure_ (i := 24) (N := some 57) (v := ?_) (a' := ?_) #[true, true, true, true, true, true, true, true, true, true, true, true, true, true, true, true, true, true, true, true, true, true, true, true, true, false, false] rfl rfl (any_of HT_.out (by kernel_rfl)) (fun _ _ _ h => h) (Or.inl ⟨by rfl, ?_⟩) ?_ ?_
        rotate_left
        ·intro w'
         go_simp
         with_reducible rfl
        rotate_left
        ·simp only [Act.put, LsA, LsZ, LsS, i64_w, i32_w]
         rfl
        refine pure_ (i := 25) (N := some 58) (v := ?_) (a' := ?_) #[true, true, true, true, true, true, true, true, true, true, true, true, true, true, true, true, true, true, true, true, true, true, true, true, true, true, false] rfl rfl (any_of HT_.out (by kernel_rfl)) (fun _ _ _ h => h) (Or.inl ⟨by rfl, ?_⟩) ?_ ?_
        rotate_left
        ·intro w'
         go_simp
         with_reducible rfl
        rotate_left
        ·simp only [Act.put, LsA, LsZ, LsS, i64_w, i32_w]
         rfl
        refine pure_ (i := 26) (N := some 59) (v := ?_) (a' := ?_) #[true, true, true, true, true, true, true, true, true, true, true, true, true, true, true, true, true, true, true, true, true, true, true, true, true, true, true] rfl rfl (any_of HT_.out (by kernel_rfl)) (fun _ _ _ h => h) (Or.inl ⟨by rfl, ?_⟩) ?_ ?_
        rotate_left
        ·intro w'
         go_simp
         with_reducible rfl
        rotate_left
        ·simp only [Act.put, LsA, LsZ, LsS, i64_w, i32_w]
         rfl
        refine done_ (done_of HT_.out (by kernel_rfl)) ?_
        try go_wp2
        go_meet
        case rel => exact ⟨_, (true), (by first | rfl | (simp; done) | (simp [*]; done)), H', ⟨by have := HJ5.out; first | omega | exact Nat.le_refl _⟩, ⟨by (with_reducible repeat (first | refine bdN ?_ _ | refine bd ?_ | refine ba ?_ _)); exact BK172.out⟩, ⟨by (with_reducible repeat (first | refine bdN ?_ _ | refine bd ?_ | refine ba ?_ _)); exact BK173.out⟩, ⟨by (with_reducible repeat (first | refine bdN ?_ _ | refine bd ?_ | refine ba ?_ _)); exact BK178.out⟩, ⟨by (with_reducible repeat (first | refine bdN ?_ _ | refine bd ?_ | refine ba ?_ _)); exact BK182.out⟩, ⟨by repeat (first | (with_reducible first | exact HB.out | apply below_alloc | apply pw_below_drewN | apply below_drew1 | refine bs ?_ GE172.out | refine bs ?_ GE173.out | refine bs ?_ GE178.out | refine bs ?_ GE182.out) | exact HB.out)⟩⟩
       ·rw [if_neg c39] at H
        have c39b0 : (!(t175 == 0) || (!(t176 == 0))) = false := by simpa using c39
        clear c39
        have H' := Aside0.mk H
        clear H
        try go_wp2
        have n0_ : Aside0 (((w22.setCell ⟨gb182, 0, none⟩ (.int .i64 t179)).setCell ⟨gb182, 1, none⟩ (.int .i64 t180)).heap[gb172]? = some (.cells #[.int .i64 a0_0, .int .i64 a0_1] 23 (0, 0))) := ⟨by (with_reducible repeat (first | refine bdN ?_ _ | refine bd ?_ | refine ba ?_ _)); refine blk_far ?_ NB172_182.out _; (with_reducible repeat (first | refine bdN ?_ _ | refine bd ?_ | refine ba ?_ _)); refine blk_far ?_ NB172_182.out _; (with_reducible repeat (first | refine bdN ?_ _ | refine bd ?_ | refine ba ?_ _)); exact BK172.out⟩
        have n1_ : Aside0 (((w22.setCell ⟨gb182, 0, none⟩ (.int .i64 t179)).setCell ⟨gb182, 1, none⟩ (.int .i64 t180)).heap[gb173]? = some (.cells #[.int .i64 a2_0, .int .i64 a2_1, .int .i64 a2_2] 33 (0, 0))) := ⟨by (with_reducible repeat (first | refine bdN ?_ _ | refine bd ?_ | refine ba ?_ _)); refine blk_far ?_ NB173_182.out _; (with_reducible repeat (first | refine bdN ?_ _ | refine bd ?_ | refine ba ?_ _)); refine blk_far ?_ NB173_182.out _; (with_reducible repeat (first | refine bdN ?_ _ | refine bd ?_ | refine ba ?_ _)); exact BK173.out⟩
        have n2_ : Aside0 (((w22.setCell ⟨gb182, 0, none⟩ (.int .i64 t179)).setCell ⟨gb182, 1, none⟩ (.int .i64 t180)).heap[gb178]? = some (.cells #[.int .i64 t175, .int .i64 t176] 23 (0, 0))) := ⟨by (with_reducible repeat (first | refine bdN ?_ _ | refine bd ?_ | refine ba ?_ _)); refine blk_far ?_ NB178_182.out _; (with_reducible repeat (first | refine bdN ?_ _ | refine bd ?_ | refine ba ?_ _)); refine blk_far ?_ NB178_182.out _; (with_reducible repeat (first | refine bdN ?_ _ | refine bd ?_ | refine ba ?_ _)); exact BK178.out⟩
        have n3_ : Aside0 (((w22.setCell ⟨gb182, 0, none⟩ (.int .i64 t179)).setCell ⟨gb182, 1, none⟩ (.int .i64 t180)).heap[gb182]? = some (.cells #[.int .i64 t179, .int .i64 t180] 23 (0, 0))) := ⟨by (with_reducible repeat (first | refine bdN ?_ _ | refine bd ?_ | refine ba ?_ _)); refine blk_put (cs := #[.int .i64 t179, .int .i64 0]) ?_ 1 _ rfl; (with_reducible repeat (first | refine bdN ?_ _ | refine bd ?_ | refine ba ?_ _)); refine blk_put (cs := #[.int .i64 0, .int .i64 0]) ?_ 0 _ rfl; (with_reducible repeat (first | refine bdN ?_ _ | refine bd ?_ | refine ba ?_ _)); exact BK182.out⟩
        have n4_ : Aside0 (Below w.heap.size w ((w22.setCell ⟨gb182, 0, none⟩ (.int .i64 t179)).setCell ⟨gb182, 1, none⟩ (.int .i64 t180))) := ⟨by repeat (first | (with_reducible first | exact HB.out | apply below_alloc | apply pw_below_drewN | apply below_drew1 | refine bs ?_ GE172.out | refine bs ?_ GE173.out | refine bs ?_ GE178.out | refine bs ?_ GE182.out) | exact HB.out)⟩
        (try clear BK172)
        (try clear BK173)
        (try clear BK178)
        (try clear BK182)
        (try clear HB)
        generalize ((w22.setCell ⟨gb182, 0, none⟩ (.int .i64 t179)).setCell ⟨gb182, 1, none⟩ (.int .i64 t180)) = w42 at n0_ n1_ n2_ n3_ n4_ ⊢
        have BK172 := n0_
        have BK173 := n1_
        have BK178 := n2_
        have BK182 := n3_
        have HB := n4_
        clear n0_ n1_ n2_ n3_ n4_
        have n0_ := Aside0.mk (bd BK172.out)
        have n1_ := Aside0.mk (bd BK173.out)
        have n2_ := Aside0.mk (bd BK178.out)
        have n3_ := Aside0.mk (bd BK182.out)
        have n4_ := Aside0.mk (below_drew1 HB.out)
        clear BK172
        clear BK173
        clear BK178
        clear BK182
        clear HB
        have BK172 := n0_
        have BK173 := n1_
        have BK178 := n2_
        have BK182 := n3_
        have HB := n4_
        clear n0_ n1_ n2_ n3_ n4_
        refine start_ (n := 27) (S := fun w' => w'.cell? ⟨gb178, 0, none⟩ = some (.int .i64 t175) ∧ w'.cell? ⟨gb178, 1, none⟩ = some (.int .i64 t176)) (ds := []) #[false, false, false, false, false, false, false, false, false, false, false, false, false, false, false, false, false, false, false, false, false, false, false, false, false, false, false] (by kernel_rfl) rfl rfl ⟨(blk_cell BK178.out 0).trans rfl, (blk_cell BK178.out 1).trans rfl⟩ (fun hHeld => ?_); refine with_tabW mainsheetlaw11_BucketChanges.tab6 mainsheetlaw11_BucketChanges.bits6 (fun HT_ HW_ => ?_)
        generalize w42.drew = w43 at BK172 BK173 BK178 BK182 HB hHeld ⊢
        refine pure_ (i := 0) (N := some 33) (v := ?_) (a' := ?_) #[true, false, false, false, false, false, false, false, false, false, false, false, false, false, false, false, false, false, false, false, false, false, false, false, false, false, false] rfl rfl (any_of HT_.out (by kernel_rfl)) (fun _ _ _ h => h) (Or.inl ⟨by rfl, ?_⟩) ?_ ?_
        rotate_left
        ·intro w'
         go_simp
         with_reducible rfl
        rotate_left
        ·simp only [Act.put, LsA, LsZ, LsS, i64_w, i32_w]
         rfl
        refine pure_ (i := 1) (N := some 34) (v := ?_) (a' := ?_) #[true, true, false, false, false, false, false, false, false, false, false, false, false, false, false, false, false, false, false, false, false, false, false, false, false, false, false] rfl rfl (any_of HT_.out (by kernel_rfl)) (fun _ _ _ h => h) (Or.inl ⟨by rfl, ?_⟩) ?_ ?_
        rotate_left
        ·intro w'
         go_simp
         with_reducible rfl
        rotate_left
        ·simp only [Act.put, LsA, LsZ, LsS, i64_w, i32_w]
         rfl
        refine pure_ (i := 2) (N := some 35) (v := ?_) (a' := ?_) #[true, true, true, false, false, false, false, false, false, false, false, false, false, false, false, false, false, false, false, false, false, false, false, false, false, false, false] rfl rfl (any_of HT_.out (by kernel_rfl)) (fun _ _ _ h => h) (Or.inl ⟨by rfl, ?_⟩) ?_ ?_
        rotate_left
        ·intro w'
         go_simp
         with_reducible rfl
        rotate_left
        ·simp only [Act.put, LsA, LsZ, LsS, i64_w, i32_w]
         rfl
        refine pure_ (i := 3) (N := some 36) (v := ?_) (a' := ?_) #[true, true, true, true, false, false, false, false, false, false, false, false, false, false, false, false, false, false, false, false, false, false, false, false, false, false, false] rfl rfl (any_of HT_.out (by kernel_rfl)) (fun _ _ _ h => h) (Or.inl ⟨by rfl, ?_⟩) ?_ ?_
        rotate_left
        ·intro w'
         go_simp
         with_reducible rfl
        rotate_left
        ·simp only [Act.put, LsA, LsZ, LsS, i64_w, i32_w]
         rfl
        refine pure_ (i := 4) (N := some 37) (v := ?_) (a' := ?_) #[true, true, true, true, true, false, false, false, false, false, false, false, false, false, false, false, false, false, false, false, false, false, false, false, false, false, false] rfl rfl (any_of HT_.out (by kernel_rfl)) (fun _ _ _ h => h) (Or.inl ⟨by rfl, ?_⟩) ?_ ?_
        rotate_left
        ·intro w'
         go_simp
         with_reducible rfl
        rotate_left
        ·simp only [Act.put, LsA, LsZ, LsS, i64_w, i32_w]
         rfl
        refine pure_ (i := 5) (N := some 38) (v := ?_) (a' := ?_) #[true, true, true, true, true, true, false, false, false, false, false, false, false, false, false, false, false, false, false, false, false, false, false, false, false, false, false] rfl rfl (any_of HT_.out (by kernel_rfl)) (fun _ _ _ h => h) (Or.inl ⟨by rfl, ?_⟩) ?_ ?_
        rotate_left
        ·intro w'
         go_simp
         with_reducible rfl
        rotate_left
        ·simp only [Act.put, LsA, LsZ, LsS, i64_w, i32_w]
         rfl
        refine pure_ (i := 6) (N := some 39) (v := ?_) (a' := ?_) #[true, true, true, true, true, true, true, false, false, false, false, false, false, false, false, false, false, false, false, false, false, false, false, false, false, false, false] rfl rfl (any_of HT_.out (by kernel_rfl)) (fun _ _ _ h => h) (Or.inl ⟨by rfl, ?_⟩) ?_ ?_
        rotate_left
        ·intro w'
         go_simp
         with_reducible rfl
        rotate_left
        ·simp only [Act.put, LsA, LsZ, LsS, i64_w, i32_w]
         rfl
        refine pure_ (i := 7) (N := some 40) (v := undef) (a' := ?_) #[true, true, true, true, true, true, true, true, false, false, false, false, false, false, false, false, false, false, false, false, false, false, false, false, false, false, false] rfl rfl (any_of HT_.out (by kernel_rfl)) (fun _ _ _ h => h) (Or.inr ⟨by rfl, rfl⟩) ?_ ?_
        rotate_left
        ·simp only [Act.put, LsA, LsZ, LsS, i64_w, i32_w]
         rfl
        refine pure_ (i := 8) (N := some 41) (v := undef) (a' := ?_) #[true, true, true, true, true, true, true, true, true, false, false, false, false, false, false, false, false, false, false, false, false, false, false, false, false, false, false] rfl rfl (any_of HT_.out (by kernel_rfl)) (fun _ _ _ h => h) (Or.inr ⟨by rfl, rfl⟩) ?_ ?_
        rotate_left
        ·simp only [Act.put, LsA, LsZ, LsS, i64_w, i32_w]
         rfl
        refine pure_ (i := 9) (N := some 42) (v := undef) (a' := ?_) #[true, true, true, true, true, true, true, true, true, true, false, false, false, false, false, false, false, false, false, false, false, false, false, false, false, false, false] rfl rfl (any_of HT_.out (by kernel_rfl)) (fun _ _ _ h => h) (Or.inr ⟨by rfl, rfl⟩) ?_ ?_
        rotate_left
        ·simp only [Act.put, LsA, LsZ, LsS, i64_w, i32_w]
         rfl
        refine pure_ (i := 10) (N := some 43) (v := undef) (a' := ?_) #[true, true, true, true, true, true, true, true, true, true, true, false, false, false, false, false, false, false, false, false, false, false, false, false, false, false, false] rfl rfl (any_of HT_.out (by kernel_rfl)) (fun _ _ _ h => h) (Or.inr ⟨by rfl, rfl⟩) ?_ ?_
        rotate_left
        ·simp only [Act.put, LsA, LsZ, LsS, i64_w, i32_w]
         rfl
        refine pure_ (i := 11) (N := some 44) (v := undef) (a' := ?_) #[true, true, true, true, true, true, true, true, true, true, true, true, false, false, false, false, false, false, false, false, false, false, false, false, false, false, false] rfl rfl (any_of HT_.out (by kernel_rfl)) (fun _ _ _ h => h) (Or.inr ⟨by rfl, rfl⟩) ?_ ?_
        rotate_left
        ·simp only [Act.put, LsA, LsZ, LsS, i64_w, i32_w]
         rfl
        refine pure_ (i := 12) (N := some 45) (v := ?_) (a' := ?_) #[true, true, true, true, true, true, true, true, true, true, true, true, true, false, false, false, false, false, false, false, false, false, false, false, false, false, false] rfl rfl (any_of HT_.out (by kernel_rfl)) (fun _ _ _ h => h) (Or.inl ⟨by rfl, ?_⟩) ?_ ?_
        rotate_left
        ·intro w'
         go_simp
         with_reducible rfl
        rotate_left
        ·simp only [Act.put, LsA, LsZ, LsS, i64_w, i32_w]
         rfl
        refine pure_ (i := 13) (N := some 46) (v := ?_) (a' := ?_) #[true, true, true, true, true, true, true, true, true, true, true, true, true, true, false, false, false, false, false, false, false, false, false, false, false, false, false] rfl rfl (any_of HT_.out (by kernel_rfl)) (fun _ _ _ h => h) (Or.inl ⟨by rfl, ?_⟩) ?_ ?_
        rotate_left
        ·intro w'
         go_simp
         with_reducible rfl
        rotate_left
        ·simp only [Act.put, LsA, LsZ, LsS, i64_w, i32_w]
         rfl
        refine pure_ (i := 14) (N := some 47) (v := ?_) (a' := ?_) #[true, true, true, true, true, true, true, true, true, true, true, true, true, true, true, false, false, false, false, false, false, false, false, false, false, false, false] rfl rfl (any_of HT_.out (by kernel_rfl)) (fun _ _ _ h => h) (Or.inl ⟨by rfl, ?_⟩) ?_ ?_
        rotate_left
        ·intro w'
         go_simp
         with_reducible rfl
        rotate_left
        ·simp only [Act.put, LsA, LsZ, LsS, i64_w, i32_w]
         rfl
        refine pure_ (i := 15) (N := some 48) (v := ?_) (a' := ?_) #[true, true, true, true, true, true, true, true, true, true, true, true, true, true, true, true, false, false, false, false, false, false, false, false, false, false, false] rfl rfl (any_of HT_.out (by kernel_rfl)) (fun _ _ _ h => h) (Or.inl ⟨by rfl, ?_⟩) ?_ ?_
        rotate_left
        ·intro w'
         go_simp
         with_reducible rfl
        rotate_left
        ·simp only [Act.put, LsA, LsZ, LsS, i64_w, i32_w]
         rfl
        refine pure_ (i := 16) (N := some 49) (v := ?_) (a' := ?_) #[true, true, true, true, true, true, true, true, true, true, true, true, true, true, true, true, true, false, false, false, false, false, false, false, false, false, false] rfl rfl (any_of HT_.out (by kernel_rfl)) (fun _ _ _ h => h) (Or.inl ⟨by rfl, ?_⟩) ?_ ?_
        rotate_left
        ·intro w'
         go_simp
         with_reducible rfl
        rotate_left
        ·simp only [Act.put, LsA, LsZ, LsS, i64_w, i32_w]
         rfl
        refine pure_ (i := 17) (N := some 50) (v := ?_) (a' := ?_) #[true, true, true, true, true, true, true, true, true, true, true, true, true, true, true, true, true, true, false, false, false, false, false, false, false, false, false] rfl rfl (any_of HT_.out (by kernel_rfl)) (fun _ _ _ h => h) (Or.inl ⟨by rfl, ?_⟩) ?_ ?_
        rotate_left
        ·intro w'
         go_simp
         with_reducible rfl
        rotate_left
        ·simp only [Act.put, LsA, LsZ, LsS, i64_w, i32_w]
         rfl
        refine pure_ (i := 19) (N := some 52) (v := ?_) (a' := ?_) #[true, true, true, true, true, true, true, true, true, true, true, true, true, true, true, true, true, true, false, true, false, false, false, false, false, false, false] rfl rfl (any_of HT_.out (by kernel_rfl)) (fun _ _ _ h => h) (Or.inl ⟨by rfl, ?_⟩) ?_ ?_
        rotate_left
        ·intro w'
         go_simp
         with_reducible rfl
        rotate_left
        ·simp only [Act.put, LsA, LsZ, LsS, i64_w, i32_w]
         rfl
        refine take_ (i := 18) (N := some 51) (v := ?_) (a' := ?_) #[true, true, true, true, true, true, true, true, true, true, true, true, true, true, true, true, true, true, true, true, false, false, false, false, false, false, false] rfl rfl (take_ofW HT_.out HW_.out (by kernel_rfl)) (fun _ _ _ h => h) (Or.inl ⟨by rfl, ?_⟩) hHeld ?_ ?_
        rotate_left
        ·rintro w' ⟨s0, s1⟩
         go_simp
         with_reducible rfl
        rotate_left
        ·simp only [Act.put, LsA, LsZ, LsS, i64_w, i32_w]
         rfl
        refine pure_ (i := 20) (N := some 53) (v := ?_) (a' := ?_) #[true, true, true, true, true, true, true, true, true, true, true, true, true, true, true, true, true, true, true, true, true, false, false, false, false, false, false] rfl rfl (any_of HT_.out (by kernel_rfl)) (fun _ _ _ h => h) (Or.inl ⟨by rfl, ?_⟩) ?_ ?_
        rotate_left
        ·intro w'
         go_simp
         with_reducible rfl
        rotate_left
        ·simp only [Act.put, LsA, LsZ, LsS, i64_w, i32_w]
         rfl
        refine pure_ (i := 21) (N := some 54) (v := ?_) (a' := ?_) #[true, true, true, true, true, true, true, true, true, true, true, true, true, true, true, true, true, true, true, true, true, true, false, false, false, false, false] rfl rfl (any_of HT_.out (by kernel_rfl)) (fun _ _ _ h => h) (Or.inl ⟨by rfl, ?_⟩) ?_ ?_
        rotate_left
        ·intro w'
         go_simp
         with_reducible rfl
        rotate_left
        ·simp only [Act.put, LsA, LsZ, LsS, i64_w, i32_w]
         rfl
        refine pure_ (i := 22) (N := some 55) (v := ?_) (a' := ?_) #[true, true, true, true, true, true, true, true, true, true, true, true, true, true, true, true, true, true, true, true, true, true, true, false, false, false, false] rfl rfl (any_of HT_.out (by kernel_rfl)) (fun _ _ _ h => h) (Or.inl ⟨by rfl, ?_⟩) ?_ ?_
        rotate_left
        ·intro w'
         go_simp
         with_reducible rfl
        rotate_left
        ·simp only [Act.put, LsA, LsZ, LsS, i64_w, i32_w]
         rfl
        refine pure_ (i := 23) (N := some 56) (v := ?_) (a' := ?_) #[true, true, true, true, true, true, true, true, true, true, true, true, true, true, true, true, true, true, true, true, true, true, true, true, false, false, false] rfl rfl (any_of HT_.out (by kernel_rfl)) (fun _ _ _ h => h) (Or.inl ⟨by rfl, ?_⟩) ?_ ?_
        rotate_left
        ·intro w'
         go_simp
         with_reducible rfl
        rotate_left
        ·simp only [Act.put, LsA, LsZ, LsS, i64_w, i32_w]
         rfl
        refine pure_ (i := 24) (N := some 57) (v := ?_) (a' := ?_) #[true, true, true, true, true, true, true, true, true, true, true, true, true, true, true, true, true, true, true, true, true, true, true, true, true, false, false] rfl rfl (any_of HT_.out (by kernel_rfl)) (fun _ _ _ h => h) (Or.inl ⟨by rfl, ?_⟩) ?_ ?_
        rotate_left
        ·intro w'
         go_simp
         with_reducible rfl
        rotate_left
        ·simp only [Act.put, LsA, LsZ, LsS, i64_w, i32_w]
         rfl
        refine pure_ (i := 25) (N := some 58) (v := ?_) (a' := ?_) #[true, true, true, true, true, true, true, true, true, true, true, true, true, true, true, true, true, true, true, true, true, true, true, true, true, true, false] rfl rfl (any_of HT_.out (by kernel_rfl)) (fun _ _ _ h => h) (Or.inl ⟨by rfl, ?_⟩) ?_ ?_
        rotate_left
        ·intro w'
         go_simp
         with_reducible rfl
        rotate_left
        ·simp only [Act.put, LsA, LsZ, LsS, i64_w, i32_w]
         rfl
        refine pure_ (i := 26) (N := some 59) (v := ?_) (a' := ?_) #[true, true, true, true, true, true, true, true, true, true, true, true, true, true, true, true, true, true, true, true, true, true, true, true, true, true, true] rfl rfl (any_of HT_.out (by kernel_rfl)) (fun _ _ _ h => h) (Or.inl ⟨by rfl, ?_⟩) ?_ ?_
        rotate_left
        ·intro w'
         go_simp
         with_reducible rfl
        rotate_left
        ·simp only [Act.put, LsA, LsZ, LsS, i64_w, i32_w]
         rfl
        refine done_ (done_of HT_.out (by kernel_rfl)) ?_
        try go_wp2
        go_meet
        case rel => exact ⟨_, ((t177 != 2)), (by first | rfl | (simp; done) | (simp [*]; done)), H', ⟨by have := HJ5.out; first | omega | exact Nat.le_refl _⟩, ⟨by (with_reducible repeat (first | refine bdN ?_ _ | refine bd ?_ | refine ba ?_ _)); exact BK172.out⟩, ⟨by (with_reducible repeat (first | refine bdN ?_ _ | refine bd ?_ | refine ba ?_ _)); exact BK173.out⟩, ⟨by (with_reducible repeat (first | refine bdN ?_ _ | refine bd ?_ | refine ba ?_ _)); exact BK178.out⟩, ⟨by (with_reducible repeat (first | refine bdN ?_ _ | refine bd ?_ | refine ba ?_ _)); exact BK182.out⟩, ⟨by repeat (first | (with_reducible first | exact HB.out | apply below_alloc | apply pw_below_drewN | apply below_drew1 | refine bs ?_ GE172.out | refine bs ?_ GE173.out | refine bs ?_ GE178.out | refine bs ?_ GE182.out) | exact HB.out)⟩⟩
    case rest =>
     clear HC13
     try clear p2
     try clear c3
     try clear c30
     try clear c39
     try clear c39b0
     obtain ⟨kq, x59_12, rfl, HA, HJ12, BK172, BK173, BK178, BK182, HB⟩ := hcut
     cases kq with
     | zero => exact absurd HA.out (by simp [mainsheetlaw11_BucketChanges.j1])
     | succ kj12 =>
      have H := HA.out
      clear HA
      simp only [mainsheetlaw11_BucketChanges.j1] at H
      by_cases c44 : x59_12 = true
      ·subst c44
       have H1 : (some false) = some r := by rw [if_pos rfl] at H; exact H
       clear H
       have H := H1
       clear H1
       obtain rfl := Option.some.inj H
       go_wp2
       go_ret
       exact ⟨by first | rfl | (simp [errW_none, errW_some] <;> rfl) | (simp [*, errW_none, errW_some] <;> rfl), by repeat (first | (with_reducible first | exact HB.out | apply below_alloc | apply pw_below_drewN | apply below_drew1 | refine bs ?_ GE172.out | refine bs ?_ GE173.out | refine bs ?_ GE178.out | refine bs ?_ GE182.out) | exact HB.out)⟩
      ·replace c44 := Bool.eq_false_iff.mpr c44
       subst c44
       have H1 : ((mainsheetref11_Right.f kj12 a0_0 a0_1).bind fun t185 => (if t185 = true then (if x7_5 = true then (if t181 = 0 then ((mainsheetref11_Change.f a0_0 a0_1 a1).bind fun bt186 => (if (!(t179 == bt186.1) || (!(t180 == bt186.2))) = true then (some false) else (mainsheetlaw11_BucketChanges.j2 kj12 a1 a2_0 a2_1 a2_2))) else (some false)) else (if t181 = 2 then (if (!(t179 == 0) || (!(t180 == 0))) = true then (some false) else (mainsheetlaw11_BucketChanges.j2 kj12 a1 a2_0 a2_1 a2_2)) else (some false))) else (if t181 = 210 then (if (!(t179 == 0) || (!(t180 == 0))) = true then (some false) else (mainsheetlaw11_BucketChanges.j2 kj12 a1 a2_0 a2_1 a2_2)) else (some false)))) = some r := by rw [if_neg (show ¬ (false = true) by decide)] at H; exact H
       clear H
       have H := H1
       clear H1
       have HC45 := Aside0.mk H
       clear H
       go_upto_block 0 with (fail)
       go_cut [] (fun wc => ∃ (kq : Nat), Aside0 (mainsheetlaw11_BucketChanges.j2 kq a1 a2_0 a2_1 a2_2 = some r) ∧ Aside0 (kq ≤ kj12) ∧ Aside0 (wc.heap[gb172]? = some (.cells #[.int .i64 a0_0, .int .i64 a0_1] 23 (0, 0))) ∧ Aside0 (wc.heap[gb173]? = some (.cells #[.int .i64 a2_0, .int .i64 a2_1, .int .i64 a2_2] 33 (0, 0))) ∧ Aside0 (wc.heap[gb178]? = some (.cells #[.int .i64 t175, .int .i64 t176] 23 (0, 0))) ∧ Aside0 (wc.heap[gb182]? = some (.cells #[.int .i64 t179, .int .i64 t180] 23 (0, 0))) ∧ Aside0 (Below w.heap.size w wc))
       case first =>
        have H := HC45.out
        clear HC45
        replace H := Option.bind_eq_some_iff.mp H
        obtain ⟨t185, A460, H⟩ := H
        replace H : (if t185 = true then (if x7_5 = true then (if t181 = 0 then ((mainsheetref11_Change.f a0_0 a0_1 a1).bind fun bt186 => (if (!(t179 == bt186.1) || (!(t180 == bt186.2))) = true then (some false) else (mainsheetlaw11_BucketChanges.j2 kj12 a1 a2_0 a2_1 a2_2))) else (some false)) else (if t181 = 2 then (if (!(t179 == 0) || (!(t180 == 0))) = true then (some false) else (mainsheetlaw11_BucketChanges.j2 kj12 a1 a2_0 a2_1 a2_2)) else (some false))) else (if t181 = 210 then (if (!(t179 == 0) || (!(t180 == 0))) = true then (some false) else (mainsheetlaw11_BucketChanges.j2 kj12 a1 a2_0 a2_1 a2_2)) else (some false))) = some r := H
        have A46 := Aside0.mk A460
        clear A460
        by_cases c47 : t185 = true
        ·subst c47
         have H1 : (if x7_5 = true then (if t181 = 0 then ((mainsheetref11_Change.f a0_0 a0_1 a1).bind fun bt186 => (if (!(t179 == bt186.1) || (!(t180 == bt186.2))) = true then (some false) else (mainsheetlaw11_BucketChanges.j2 kj12 a1 a2_0 a2_1 a2_2))) else (some false)) else (if t181 = 2 then (if (!(t179 == 0) || (!(t180 == 0))) = true then (some false) else (mainsheetlaw11_BucketChanges.j2 kj12 a1 a2_0 a2_1 a2_2)) else (some false))) = some r := by rw [if_pos rfl] at H; exact H
         clear H
         have H := H1
         clear H1
         by_cases c48 : x7_5 = true
         ·subst c48
          have H1 : (if t181 = 0 then ((mainsheetref11_Change.f a0_0 a0_1 a1).bind fun bt186 => (if (!(t179 == bt186.1) || (!(t180 == bt186.2))) = true then (some false) else (mainsheetlaw11_BucketChanges.j2 kj12 a1 a2_0 a2_1 a2_2))) else (some false)) = some r := by rw [if_pos rfl] at H; exact H
          clear H
          have H := H1
          clear H1
          by_cases c49 : t181 = 0
          ·rw [if_pos c49] at H
           have c49b0 : (t181 == 0) = true := beq_iff_eq.mpr c49
           have c49b1 : (t181 != 0) = false := bne_eq_false_iff_eq.mpr c49
           clear c49
           (first | rw [c49b0] | (simp only [i64_w, i32_w]; rw [c49b0]) | skip)
           replace H := Option.bind_eq_some_iff.mp H
           obtain ⟨⟨t186, t187⟩, A500, H⟩ := H
           replace H : (if (!(t179 == t186) || (!(t180 == t187))) = true then (some false) else (mainsheetlaw11_BucketChanges.j2 kj12 a1 a2_0 a2_1 a2_2)) = some r := H
           have A50 := Aside0.mk A500
           clear A500
           by_cases c51 : (!(t179 == t186) || (!(t180 == t187))) = true
           ·rw [if_pos c51] at H
            have c51b0 : (!(t179 == t186) || (!(t180 == t187))) = true := c51
            clear c51
            obtain rfl := Option.some.inj H
            have hnb52 := NB172_173.out
            have hnc52 := NB173_172.out
            have hnb53 := NB172_178.out
            have hnc53 := NB178_172.out
            have hnb54 := NB172_182.out
            have hnc54 := NB182_172.out
            have hcz55_0 : wc.cell? ⟨gb172, 0, none⟩ = some (.int .i64 a0_0) := (blk_cell BK172.out 0).trans rfl
            have hcz55_1 : wc.cell? ⟨gb172, 1, none⟩ = some (.int .i64 a0_1) := (blk_cell BK172.out 1).trans rfl
            have hfz55_0 := blk_frozen BK172.out 0
            have hfz55_1 := blk_frozen BK172.out 1
            try go_wp2_with (first | ((with_reducible refine gate_callee (f := 17) rfl ?_); refine goesL_ (some 71) rfl rfl Try.func17 (by kernel_rfl) rfl #[.agg #[.int .i64 a0_0, .int .i64 a0_1]] rfl (by (try simp only [List.map_toArray, List.map_cons, List.map_nil]); first | done | rfl | (simp only [List.length_drop, List.length_take]; rfl)) ?_; (with_reducible refine (mainsheetref11_Right.calls kj12 a0_0 a0_1 true _ A46.out).mono ?_); rintro e w56 ⟨rfl, hb⟩; refine ⟨_, rfl, ?_⟩; have n0_ := Aside0.mk (blk_below (g := gb172) (o := .cells #[.int .i64 a0_0, .int .i64 a0_1] 23 (0, 0)) (by (with_reducible repeat (first | refine bdN ?_ _ | refine bd ?_ | refine ba ?_ _)); exact BK172.out) hb); have n1_ := Aside0.mk (blk_below (g := gb173) (o := .cells #[.int .i64 a2_0, .int .i64 a2_1, .int .i64 a2_2] 33 (0, 0)) (by (with_reducible repeat (first | refine bdN ?_ _ | refine bd ?_ | refine ba ?_ _)); exact BK173.out) hb); have n2_ := Aside0.mk (blk_below (g := gb178) (o := .cells #[.int .i64 t175, .int .i64 t176] 23 (0, 0)) (by (with_reducible repeat (first | refine bdN ?_ _ | refine bd ?_ | refine ba ?_ _)); exact BK178.out) hb); have n3_ := Aside0.mk (blk_below (g := gb182) (o := .cells #[.int .i64 t179, .int .i64 t180] 23 (0, 0)) (by (with_reducible repeat (first | refine bdN ?_ _ | refine bd ?_ | refine ba ?_ _)); exact BK182.out) hb); have n4_ := Aside0.mk (below_step (by repeat (first | (with_reducible first | exact HB.out | apply below_alloc | apply pw_below_drewN | apply below_drew1 | refine bs ?_ GE172.out | refine bs ?_ GE173.out | refine bs ?_ GE178.out | refine bs ?_ GE182.out) | exact HB.out)) hb); clear BK172; clear BK173; clear BK178; clear BK182; clear HB; have BK172 := n0_; have BK173 := n1_; have BK178 := n2_; have BK182 := n3_; have HB := n4_; clear n0_ n1_ n2_ n3_ n4_; (try clear hb); (try clear hb2); (try clear hk); (try clear hi)))
            have n0_ := Aside0.mk (bd BK172.out)
            have n1_ := Aside0.mk (bd BK173.out)
            have n2_ := Aside0.mk (bd BK178.out)
            have n3_ := Aside0.mk (bd BK182.out)
            have n4_ := Aside0.mk (below_drew1 HB.out)
            clear BK172
            clear BK173
            clear BK178
            clear BK182
            clear HB
            have BK172 := n0_
            have BK173 := n1_
            have BK178 := n2_
            have BK182 := n3_
            have HB := n4_
            clear n0_ n1_ n2_ n3_ n4_
            refine start_ (n := 9) (S := fun w' => w'.cell? ⟨gb182, 0, none⟩ = some (.int .i64 t179) ∧ w'.cell? ⟨gb182, 1, none⟩ = some (.int .i64 t180) ∧ w'.cell? ⟨gb172, 0, none⟩ = some (.int .i64 a0_0) ∧ w'.cell? ⟨gb172, 1, none⟩ = some (.int .i64 a0_1)) (ds := []) #[false, false, false, false, false, false, false, false, false] (by kernel_rfl) rfl rfl ⟨(blk_cell BK182.out 0).trans rfl, (blk_cell BK182.out 1).trans rfl, (blk_cell BK172.out 0).trans rfl, (blk_cell BK172.out 1).trans rfl⟩ (fun hHeld => ?_); refine with_tabW mainsheetlaw11_BucketChanges.tab8 mainsheetlaw11_BucketChanges.bits8 (fun HT_ HW_ => ?_)
            generalize w56.drew = w57 at BK172 BK173 BK178 BK182 HB hHeld ⊢
            refine pure_ (i := 0) (N := some 60) (v := ?_) (a' := ?_) #[true, false, false, false, false, false, false, false, false] rfl rfl (any_of HT_.out (by kernel_rfl)) (fun _ _ _ h => h) (Or.inl ⟨by rfl, ?_⟩) ?_ ?_
            rotate_left
            ·intro w'
             go_simp
             with_reducible rfl
            rotate_left
            ·simp only [Act.put, LsA, LsZ, LsS, i64_w, i32_w]
             rfl
            refine pure_ (i := 1) (N := some 61) (v := ?_) (a' := ?_) #[true, true, false, false, false, false, false, false, false] rfl rfl (any_of HT_.out (by kernel_rfl)) (fun _ _ _ h => h) (Or.inl ⟨by rfl, ?_⟩) ?_ ?_
            rotate_left
            ·intro w'
             go_simp
             with_reducible rfl
            rotate_left
            ·simp only [Act.put, LsA, LsZ, LsS, i64_w, i32_w]
             rfl
            refine pure_ (i := 2) (N := some 62) (v := ?_) (a' := ?_) #[true, true, true, false, false, false, false, false, false] rfl rfl (any_of HT_.out (by kernel_rfl)) (fun _ _ _ h => h) (Or.inl ⟨by rfl, ?_⟩) ?_ ?_
            rotate_left
            ·intro w'
             go_simp
             with_reducible rfl
            rotate_left
            ·simp only [Act.put, LsA, LsZ, LsS, i64_w, i32_w]
             rfl
            refine pure_ (i := 5) (N := some 65) (v := ?_) (a' := ?_) #[true, true, true, false, false, true, false, false, false] rfl rfl (any_of HT_.out (by kernel_rfl)) (fun _ _ _ h => h) (Or.inl ⟨by rfl, ?_⟩) ?_ ?_
            rotate_left
            ·intro w'
             go_simp
             with_reducible rfl
            rotate_left
            ·simp only [Act.put, LsA, LsZ, LsS, i64_w, i32_w]
             rfl
            refine take_ (i := 3) (N := some 63) (v := ?_) (a' := ?_) #[true, true, true, true, false, true, false, false, false] rfl rfl (take_ofW HT_.out HW_.out (by kernel_rfl)) (fun _ _ _ h => h) (Or.inl ⟨by rfl, ?_⟩) hHeld ?_ ?_
            rotate_left
            ·rintro w' ⟨s0, s1, s2, s3⟩
             go_simp
             with_reducible rfl
            rotate_left
            ·simp only [Act.put, LsA, LsZ, LsS, i64_w, i32_w]
             rfl
            refine take_ (i := 4) (N := some 64) (v := ?_) (a' := ?_) #[true, true, true, true, true, true, false, false, false] rfl rfl (take_ofW HT_.out HW_.out (by kernel_rfl)) (fun _ _ _ h => h) (Or.inl ⟨by rfl, ?_⟩) hHeld ?_ ?_
            rotate_left
            ·rintro w' ⟨s0, s1, s2, s3⟩
             go_simp
             with_reducible rfl
            rotate_left
            ·simp only [Act.put, LsA, LsZ, LsS, i64_w, i32_w]
             rfl
            refine one_ (i := 6) (N := some 66) #[true, true, true, true, true, true, true, false, false] rfl rfl (one_of HT_.out (by kernel_rfl)) (by decide) (fun K hK => ?_)
            refine goes_ Try.func22 (by kernel_rfl) rfl #[.agg #[.int .i64 a0_0, .int .i64 a0_1], .int .i64 a1] (by rfl) rfl rfl (by (try simp only [List.map_toArray, List.map_cons, List.map_nil]); first | done | rfl | (simp only [List.length_drop, List.length_take]; rfl)) ?_
            with_reducible refine (mainsheetref11_Change.calls a0_0 a0_1 a1 t186 t187 _ A50.out).mono ?_
            rintro e w58 ⟨rfl, hb⟩
            refine ⟨_, rfl, ?_⟩
            have n0_ := Aside0.mk (blk_below (g := gb172) (o := .cells #[.int .i64 a0_0, .int .i64 a0_1] 23 (0, 0)) (by (with_reducible repeat (first | refine bdN ?_ _ | refine bd ?_ | refine ba ?_ _)); exact BK172.out) hb)
            have n1_ := Aside0.mk (blk_below (g := gb173) (o := .cells #[.int .i64 a2_0, .int .i64 a2_1, .int .i64 a2_2] 33 (0, 0)) (by (with_reducible repeat (first | refine bdN ?_ _ | refine bd ?_ | refine ba ?_ _)); exact BK173.out) hb)
            have n2_ := Aside0.mk (blk_below (g := gb178) (o := .cells #[.int .i64 t175, .int .i64 t176] 23 (0, 0)) (by (with_reducible repeat (first | refine bdN ?_ _ | refine bd ?_ | refine ba ?_ _)); exact BK178.out) hb)
            have n3_ := Aside0.mk (blk_below (g := gb182) (o := .cells #[.int .i64 t179, .int .i64 t180] 23 (0, 0)) (by (with_reducible repeat (first | refine bdN ?_ _ | refine bd ?_ | refine ba ?_ _)); exact BK182.out) hb)
            have n4_ := Aside0.mk (below_step (by repeat (first | (with_reducible first | exact HB.out | apply below_alloc | apply pw_below_drewN | apply below_drew1 | refine bs ?_ GE172.out | refine bs ?_ GE173.out | refine bs ?_ GE178.out | refine bs ?_ GE182.out) | exact HB.out)) hb)
            clear BK172
            clear BK173
            clear BK178
            clear BK182
            clear HB
            have BK172 := n0_
            have BK173 := n1_
            have BK178 := n2_
            have BK182 := n3_
            have HB := n4_
            clear n0_ n1_ n2_ n3_ n4_
            (try clear hb)
            (try clear hb2)
            (try clear hk)
            (try clear hi)
            refine hK.out _ _ ⟨(blk_cell BK182.out 0).trans rfl, (blk_cell BK182.out 1).trans rfl, (blk_cell BK172.out 0).trans rfl, (blk_cell BK172.out 1).trans rfl⟩ (fun hHeld => ?_)
            clear hK K
            refine norm_ (a' := ?_) ?_ ?_
            rotate_left
            ·show Act.put _ (some 66) _ = _
             simp only [Act.put, LsA, LsZ, LsS, i64_w, i32_w]
             rfl
            refine pure_ (i := 7) (N := some 67) (v := ?_) (a' := ?_) #[true, true, true, true, true, true, true, true, false] rfl rfl (any_of HT_.out (by kernel_rfl)) (fun _ _ _ h => h) (Or.inl ⟨by rfl, ?_⟩) ?_ ?_
            rotate_left
            ·intro w'
             go_simp
             with_reducible rfl
            rotate_left
            ·simp only [Act.put, LsA, LsZ, LsS, i64_w, i32_w]
             rfl
            refine pure_ (i := 8) (N := some 68) (v := ?_) (a' := ?_) #[true, true, true, true, true, true, true, true, true] rfl rfl (any_of HT_.out (by kernel_rfl)) (fun _ _ _ h => h) (Or.inl ⟨by rfl, ?_⟩) ?_ ?_
            rotate_left
            ·intro w'
             go_simp
             with_reducible rfl
            rotate_left
            ·simp only [Act.put, LsA, LsZ, LsS, i64_w, i32_w]
             rfl
            refine done_ (done_of HT_.out (by kernel_rfl)) ?_
            try go_wp2
            go_ret
            exact ⟨by first | rfl | (simp [errW_none, errW_some] <;> rfl) | (simp [*, errW_none, errW_some] <;> rfl), by repeat (first | (with_reducible first | exact HB.out | apply below_alloc | apply pw_below_drewN | apply below_drew1 | refine bs ?_ GE172.out | refine bs ?_ GE173.out | refine bs ?_ GE178.out | refine bs ?_ GE182.out) | exact HB.out)⟩
           ·rw [if_neg c51] at H
            have c51b0 : (!(t179 == t186) || (!(t180 == t187))) = false := by simpa using c51
            clear c51
            have H' := Aside0.mk H
            clear H
            have hnb59 := NB172_173.out
            have hnc59 := NB173_172.out
            have hnb60 := NB172_178.out
            have hnc60 := NB178_172.out
            have hnb61 := NB172_182.out
            have hnc61 := NB182_172.out
            have hcz62_0 : wc.cell? ⟨gb172, 0, none⟩ = some (.int .i64 a0_0) := (blk_cell BK172.out 0).trans rfl
            have hcz62_1 : wc.cell? ⟨gb172, 1, none⟩ = some (.int .i64 a0_1) := (blk_cell BK172.out 1).trans rfl
            have hfz62_0 := blk_frozen BK172.out 0
            have hfz62_1 := blk_frozen BK172.out 1
            try go_wp2_with (first | ((with_reducible refine gate_callee (f := 17) rfl ?_); refine goesL_ (some 71) rfl rfl Try.func17 (by kernel_rfl) rfl #[.agg #[.int .i64 a0_0, .int .i64 a0_1]] rfl (by (try simp only [List.map_toArray, List.map_cons, List.map_nil]); first | done | rfl | (simp only [List.length_drop, List.length_take]; rfl)) ?_; (with_reducible refine (mainsheetref11_Right.calls kj12 a0_0 a0_1 true _ A46.out).mono ?_); rintro e w63 ⟨rfl, hb⟩; refine ⟨_, rfl, ?_⟩; have n0_ := Aside0.mk (blk_below (g := gb172) (o := .cells #[.int .i64 a0_0, .int .i64 a0_1] 23 (0, 0)) (by (with_reducible repeat (first | refine bdN ?_ _ | refine bd ?_ | refine ba ?_ _)); exact BK172.out) hb); have n1_ := Aside0.mk (blk_below (g := gb173) (o := .cells #[.int .i64 a2_0, .int .i64 a2_1, .int .i64 a2_2] 33 (0, 0)) (by (with_reducible repeat (first | refine bdN ?_ _ | refine bd ?_ | refine ba ?_ _)); exact BK173.out) hb); have n2_ := Aside0.mk (blk_below (g := gb178) (o := .cells #[.int .i64 t175, .int .i64 t176] 23 (0, 0)) (by (with_reducible repeat (first | refine bdN ?_ _ | refine bd ?_ | refine ba ?_ _)); exact BK178.out) hb); have n3_ := Aside0.mk (blk_below (g := gb182) (o := .cells #[.int .i64 t179, .int .i64 t180] 23 (0, 0)) (by (with_reducible repeat (first | refine bdN ?_ _ | refine bd ?_ | refine ba ?_ _)); exact BK182.out) hb); have n4_ := Aside0.mk (below_step (by repeat (first | (with_reducible first | exact HB.out | apply below_alloc | apply pw_below_drewN | apply below_drew1 | refine bs ?_ GE172.out | refine bs ?_ GE173.out | refine bs ?_ GE178.out | refine bs ?_ GE182.out) | exact HB.out)) hb); clear BK172; clear BK173; clear BK178; clear BK182; clear HB; have BK172 := n0_; have BK173 := n1_; have BK178 := n2_; have BK182 := n3_; have HB := n4_; clear n0_ n1_ n2_ n3_ n4_; (try clear hb); (try clear hb2); (try clear hk); (try clear hi)))
            have n0_ := Aside0.mk (bd BK172.out)
            have n1_ := Aside0.mk (bd BK173.out)
            have n2_ := Aside0.mk (bd BK178.out)
            have n3_ := Aside0.mk (bd BK182.out)
            have n4_ := Aside0.mk (below_drew1 HB.out)
            clear BK172
            clear BK173
            clear BK178
            clear BK182
            clear HB
            have BK172 := n0_
            have BK173 := n1_
            have BK178 := n2_
            have BK182 := n3_
            have HB := n4_
            clear n0_ n1_ n2_ n3_ n4_
            refine start_ (n := 9) (S := fun w' => w'.cell? ⟨gb182, 0, none⟩ = some (.int .i64 t179) ∧ w'.cell? ⟨gb182, 1, none⟩ = some (.int .i64 t180) ∧ w'.cell? ⟨gb172, 0, none⟩ = some (.int .i64 a0_0) ∧ w'.cell? ⟨gb172, 1, none⟩ = some (.int .i64 a0_1)) (ds := []) #[false, false, false, false, false, false, false, false, false] (by kernel_rfl) rfl rfl ⟨(blk_cell BK182.out 0).trans rfl, (blk_cell BK182.out 1).trans rfl, (blk_cell BK172.out 0).trans rfl, (blk_cell BK172.out 1).trans rfl⟩ (fun hHeld => ?_); refine with_tabW mainsheetlaw11_BucketChanges.tab8 mainsheetlaw11_BucketChanges.bits8 (fun HT_ HW_ => ?_)
            generalize w63.drew = w64 at BK172 BK173 BK178 BK182 HB hHeld ⊢
            refine pure_ (i := 0) (N := some 60) (v := ?_) (a' := ?_) #[true, false, false, false, false, false, false, false, false] rfl rfl (any_of HT_.out (by kernel_rfl)) (fun _ _ _ h => h) (Or.inl ⟨by rfl, ?_⟩) ?_ ?_
            rotate_left
            ·intro w'
             go_simp
             with_reducible rfl
            rotate_left
            ·simp only [Act.put, LsA, LsZ, LsS, i64_w, i32_w]
             rfl
            refine pure_ (i := 1) (N := some 61) (v := ?_) (a' := ?_) #[true, true, false, false, false, false, false, false, false] rfl rfl (any_of HT_.out (by kernel_rfl)) (fun _ _ _ h => h) (Or.inl ⟨by rfl, ?_⟩) ?_ ?_
            rotate_left
            ·intro w'
             go_simp
             with_reducible rfl
            rotate_left
            ·simp only [Act.put, LsA, LsZ, LsS, i64_w, i32_w]
             rfl
            refine pure_ (i := 2) (N := some 62) (v := ?_) (a' := ?_) #[true, true, true, false, false, false, false, false, false] rfl rfl (any_of HT_.out (by kernel_rfl)) (fun _ _ _ h => h) (Or.inl ⟨by rfl, ?_⟩) ?_ ?_
            rotate_left
            ·intro w'
             go_simp
             with_reducible rfl
            rotate_left
            ·simp only [Act.put, LsA, LsZ, LsS, i64_w, i32_w]
             rfl
            refine pure_ (i := 5) (N := some 65) (v := ?_) (a' := ?_) #[true, true, true, false, false, true, false, false, false] rfl rfl (any_of HT_.out (by kernel_rfl)) (fun _ _ _ h => h) (Or.inl ⟨by rfl, ?_⟩) ?_ ?_
            rotate_left
            ·intro w'
             go_simp
             with_reducible rfl
            rotate_left
            ·simp only [Act.put, LsA, LsZ, LsS, i64_w, i32_w]
             rfl
            refine take_ (i := 3) (N := some 63) (v := ?_) (a' := ?_) #[true, true, true, true, false, true, false, false, false] rfl rfl (take_ofW HT_.out HW_.out (by kernel_rfl)) (fun _ _ _ h => h) (Or.inl ⟨by rfl, ?_⟩) hHeld ?_ ?_
            rotate_left
            ·rintro w' ⟨s0, s1, s2, s3⟩
             go_simp
             with_reducible rfl
            rotate_left
            ·simp only [Act.put, LsA, LsZ, LsS, i64_w, i32_w]
             rfl
            refine take_ (i := 4) (N := some 64) (v := ?_) (a' := ?_) #[true, true, true, true, true, true, false, false, false] rfl rfl (take_ofW HT_.out HW_.out (by kernel_rfl)) (fun _ _ _ h => h) (Or.inl ⟨by rfl, ?_⟩) hHeld ?_ ?_
            rotate_left
            ·rintro w' ⟨s0, s1, s2, s3⟩
             go_simp
             with_reducible rfl
            rotate_left
            ·simp only [Act.put, LsA, LsZ, LsS, i64_w, i32_w]
             rfl
            refine one_ (i := 6) (N := some 66) #[true, true, true, true, true, true, true, false, false] rfl rfl (one_of HT_.out (by kernel_rfl)) (by decide) (fun K hK => ?_)
            refine goes_ Try.func22 (by kernel_rfl) rfl #[.agg #[.int .i64 a0_0, .int .i64 a0_1], .int .i64 a1] (by rfl) rfl rfl (by (try simp only [List.map_toArray, List.map_cons, List.map_nil]); first | done | rfl | (simp only [List.length_drop, List.length_take]; rfl)) ?_
            with_reducible refine (mainsheetref11_Change.calls a0_0 a0_1 a1 t186 t187 _ A50.out).mono ?_
            rintro e w65 ⟨rfl, hb⟩
            refine ⟨_, rfl, ?_⟩
            have n0_ := Aside0.mk (blk_below (g := gb172) (o := .cells #[.int .i64 a0_0, .int .i64 a0_1] 23 (0, 0)) (by (with_reducible repeat (first | refine bdN ?_ _ | refine bd ?_ | refine ba ?_ _)); exact BK172.out) hb)
            have n1_ := Aside0.mk (blk_below (g := gb173) (o := .cells #[.int .i64 a2_0, .int .i64 a2_1, .int .i64 a2_2] 33 (0, 0)) (by (with_reducible repeat (first | refine bdN ?_ _ | refine bd ?_ | refine ba ?_ _)); exact BK173.out) hb)
            have n2_ := Aside0.mk (blk_below (g := gb178) (o := .cells #[.int .i64 t175, .int .i64 t176] 23 (0, 0)) (by (with_reducible repeat (first | refine bdN ?_ _ | refine bd ?_ | refine ba ?_ _)); exact BK178.out) hb)
            have n3_ := Aside0.mk (blk_below (g := gb182) (o := .cells #[.int .i64 t179, .int .i64 t180] 23 (0, 0)) (by (with_reducible repeat (first | refine bdN ?_ _ | refine bd ?_ | refine ba ?_ _)); exact BK182.out) hb)
            have n4_ := Aside0.mk (below_step (by repeat (first | (with_reducible first | exact HB.out | apply below_alloc | apply pw_below_drewN | apply below_drew1 | refine bs ?_ GE172.out | refine bs ?_ GE173.out | refine bs ?_ GE178.out | refine bs ?_ GE182.out) | exact HB.out)) hb)
            clear BK172
            clear BK173
            clear BK178
            clear BK182
            clear HB
            have BK172 := n0_
            have BK173 := n1_
            have BK178 := n2_
            have BK182 := n3_
            have HB := n4_
            clear n0_ n1_ n2_ n3_ n4_
            (try clear hb)
            (try clear hb2)
            (try clear hk)
            (try clear hi)
            refine hK.out _ _ ⟨(blk_cell BK182.out 0).trans rfl, (blk_cell BK182.out 1).trans rfl, (blk_cell BK172.out 0).trans rfl, (blk_cell BK172.out 1).trans rfl⟩ (fun hHeld => ?_)
            clear hK K
            refine norm_ (a' := ?_) ?_ ?_
            rotate_left
            ·show Act.put _ (some 66) _ = _
             simp only [Act.put, LsA, LsZ, LsS, i64_w, i32_w]
             rfl
            refine pure_ (i := 7) (N := some 67) (v := ?_) (a' := ?_) #[true, true, true, true, true, true, true, true, false] rfl rfl (any_of HT_.out (by kernel_rfl)) (fun _ _ _ h => h) (Or.inl ⟨by rfl, ?_⟩) ?_ ?_
            rotate_left
            ·intro w'
             go_simp
             with_reducible rfl
            rotate_left
            ·simp only [Act.put, LsA, LsZ, LsS, i64_w, i32_w]
             rfl
            refine pure_ (i := 8) (N := some 68) (v := ?_) (a' := ?_) #[true, true, true, true, true, true, true, true, true] rfl rfl (any_of HT_.out (by kernel_rfl)) (fun _ _ _ h => h) (Or.inl ⟨by rfl, ?_⟩) ?_ ?_
            rotate_left
            ·intro w'
             go_simp
             with_reducible rfl
            rotate_left
            ·simp only [Act.put, LsA, LsZ, LsS, i64_w, i32_w]
             rfl
            refine done_ (done_of HT_.out (by kernel_rfl)) ?_
            try go_wp2
            go_meet
            case rel => exact ⟨_, H', ⟨by have := HJ5.out; have := HJ12.out; first | omega | exact Nat.le_refl _⟩, ⟨by (with_reducible repeat (first | refine bdN ?_ _ | refine bd ?_ | refine ba ?_ _)); exact BK172.out⟩, ⟨by (with_reducible repeat (first | refine bdN ?_ _ | refine bd ?_ | refine ba ?_ _)); exact BK173.out⟩, ⟨by (with_reducible repeat (first | refine bdN ?_ _ | refine bd ?_ | refine ba ?_ _)); exact BK178.out⟩, ⟨by (with_reducible repeat (first | refine bdN ?_ _ | refine bd ?_ | refine ba ?_ _)); exact BK182.out⟩, ⟨by repeat (first | (with_reducible first | exact HB.out | apply below_alloc | apply pw_below_drewN | apply below_drew1 | refine bs ?_ GE172.out | refine bs ?_ GE173.out | refine bs ?_ GE178.out | refine bs ?_ GE182.out) | exact HB.out)⟩⟩
          ·rw [if_neg c49] at H
           have c49b0 : (t181 == 0) = false := beq_eq_false_iff_ne.mpr c49
           have c49b1 : (t181 != 0) = true := bne_iff_ne.mpr c49
           (first | rw [c49b0] | (simp only [i64_w, i32_w]; rw [c49b0]) | skip)
           obtain rfl := Option.some.inj H
           have hnb66 := NB172_173.out
           have hnc66 := NB173_172.out
           have hnb67 := NB172_178.out
           have hnc67 := NB178_172.out
           have hnb68 := NB172_182.out
           have hnc68 := NB182_172.out
           have hcz69_0 : wc.cell? ⟨gb172, 0, none⟩ = some (.int .i64 a0_0) := (blk_cell BK172.out 0).trans rfl
           have hcz69_1 : wc.cell? ⟨gb172, 1, none⟩ = some (.int .i64 a0_1) := (blk_cell BK172.out 1).trans rfl
           have hfz69_0 := blk_frozen BK172.out 0
           have hfz69_1 := blk_frozen BK172.out 1
           try go_wp2_with (first | ((with_reducible refine gate_callee (f := 17) rfl ?_); refine goesL_ (some 71) rfl rfl Try.func17 (by kernel_rfl) rfl #[.agg #[.int .i64 a0_0, .int .i64 a0_1]] rfl (by (try simp only [List.map_toArray, List.map_cons, List.map_nil]); first | done | rfl | (simp only [List.length_drop, List.length_take]; rfl)) ?_; (with_reducible refine (mainsheetref11_Right.calls kj12 a0_0 a0_1 true _ A46.out).mono ?_); rintro e w70 ⟨rfl, hb⟩; refine ⟨_, rfl, ?_⟩; have n0_ := Aside0.mk (blk_below (g := gb172) (o := .cells #[.int .i64 a0_0, .int .i64 a0_1] 23 (0, 0)) (by (with_reducible repeat (first | refine bdN ?_ _ | refine bd ?_ | refine ba ?_ _)); exact BK172.out) hb); have n1_ := Aside0.mk (blk_below (g := gb173) (o := .cells #[.int .i64 a2_0, .int .i64 a2_1, .int .i64 a2_2] 33 (0, 0)) (by (with_reducible repeat (first | refine bdN ?_ _ | refine bd ?_ | refine ba ?_ _)); exact BK173.out) hb); have n2_ := Aside0.mk (blk_below (g := gb178) (o := .cells #[.int .i64 t175, .int .i64 t176] 23 (0, 0)) (by (with_reducible repeat (first | refine bdN ?_ _ | refine bd ?_ | refine ba ?_ _)); exact BK178.out) hb); have n3_ := Aside0.mk (blk_below (g := gb182) (o := .cells #[.int .i64 t179, .int .i64 t180] 23 (0, 0)) (by (with_reducible repeat (first | refine bdN ?_ _ | refine bd ?_ | refine ba ?_ _)); exact BK182.out) hb); have n4_ := Aside0.mk (below_step (by repeat (first | (with_reducible first | exact HB.out | apply below_alloc | apply pw_below_drewN | apply below_drew1 | refine bs ?_ GE172.out | refine bs ?_ GE173.out | refine bs ?_ GE178.out | refine bs ?_ GE182.out) | exact HB.out)) hb); clear BK172; clear BK173; clear BK178; clear BK182; clear HB; have BK172 := n0_; have BK173 := n1_; have BK178 := n2_; have BK182 := n3_; have HB := n4_; clear n0_ n1_ n2_ n3_ n4_; (try clear hb); (try clear hb2); (try clear hk); (try clear hi)))
           have n0_ := Aside0.mk (bd BK172.out)
           have n1_ := Aside0.mk (bd BK173.out)
           have n2_ := Aside0.mk (bd BK178.out)
           have n3_ := Aside0.mk (bd BK182.out)
           have n4_ := Aside0.mk (below_drew1 HB.out)
           clear BK172
           clear BK173
           clear BK178
           clear BK182
           clear HB
           have BK172 := n0_
           have BK173 := n1_
           have BK178 := n2_
           have BK182 := n3_
           have HB := n4_
           clear n0_ n1_ n2_ n3_ n4_
           refine start_ (n := 9) (S := fun w' => True) (ds := []) #[false, false, false, false, false, false, false, false, false] (by kernel_rfl) rfl rfl trivial (fun hHeld => ?_); refine with_tabW mainsheetlaw11_BucketChanges.tab8 mainsheetlaw11_BucketChanges.bits8 (fun HT_ HW_ => ?_)
           generalize w70.drew = w71 at BK172 BK173 BK178 BK182 HB hHeld ⊢
           refine pure_ (i := 0) (N := some 60) (v := ?_) (a' := ?_) #[true, false, false, false, false, false, false, false, false] rfl rfl (any_of HT_.out (by kernel_rfl)) (fun _ _ _ h => h) (Or.inl ⟨by rfl, ?_⟩) ?_ ?_
           rotate_left
           ·intro w'
            go_simp
            with_reducible rfl
           rotate_left
           ·simp only [Act.put, LsA, LsZ, LsS, i64_w, i32_w]
            rfl
           refine pure_ (i := 1) (N := some 61) (v := ?_) (a' := ?_) #[true, true, false, false, false, false, false, false, false] rfl rfl (any_of HT_.out (by kernel_rfl)) (fun _ _ _ h => h) (Or.inl ⟨by rfl, ?_⟩) ?_ ?_
           rotate_left
           ·intro w'
            go_simp
            with_reducible rfl
           rotate_left
           ·simp only [Act.put, LsA, LsZ, LsS, i64_w, i32_w]
            rfl
           refine pure_ (i := 2) (N := some 62) (v := ?_) (a' := ?_) #[true, true, true, false, false, false, false, false, false] rfl rfl (any_of HT_.out (by kernel_rfl)) (fun _ _ _ h => h) (Or.inl ⟨by rfl, ?_⟩) ?_ ?_
           rotate_left
           ·intro w'
            go_simp
            with_reducible rfl
           rotate_left
           ·simp only [Act.put, LsA, LsZ, LsS, i64_w, i32_w]
            rfl
           refine pure_ (i := 3) (N := some 63) (v := undef) (a' := ?_) #[true, true, true, true, false, false, false, false, false] rfl rfl (any_of HT_.out (by kernel_rfl)) (fun _ _ _ h => h) (Or.inr ⟨by rfl, rfl⟩) ?_ ?_
           rotate_left
           ·simp only [Act.put, LsA, LsZ, LsS, i64_w, i32_w]
            rfl
           refine pure_ (i := 4) (N := some 64) (v := undef) (a' := ?_) #[true, true, true, true, true, false, false, false, false] rfl rfl (any_of HT_.out (by kernel_rfl)) (fun _ _ _ h => h) (Or.inr ⟨by rfl, rfl⟩) ?_ ?_
           rotate_left
           ·simp only [Act.put, LsA, LsZ, LsS, i64_w, i32_w]
            rfl
           refine pure_ (i := 5) (N := some 65) (v := undef) (a' := ?_) #[true, true, true, true, true, true, false, false, false] rfl rfl (any_of HT_.out (by kernel_rfl)) (fun _ _ _ h => h) (Or.inr ⟨by rfl, rfl⟩) ?_ ?_
           rotate_left
           ·simp only [Act.put, LsA, LsZ, LsS, i64_w, i32_w]
            rfl
           refine pure_ (i := 6) (N := some 66) (v := undef) (a' := ?_) #[true, true, true, true, true, true, true, false, false] rfl rfl (any_of HT_.out (by kernel_rfl)) (fun _ _ _ h => h) (Or.inr ⟨by rfl, rfl⟩) ?_ ?_
           rotate_left
           ·simp only [Act.put, LsA, LsZ, LsS, i64_w, i32_w]
            rfl
           refine pure_ (i := 7) (N := some 67) (v := undef) (a' := ?_) #[true, true, true, true, true, true, true, true, false] rfl rfl (any_of HT_.out (by kernel_rfl)) (fun _ _ _ h => h) (Or.inr ⟨by rfl, rfl⟩) ?_ ?_
           rotate_left
           ·simp only [Act.put, LsA, LsZ, LsS, i64_w, i32_w]
            rfl
           refine pure_ (i := 8) (N := some 68) (v := ?_) (a' := ?_) #[true, true, true, true, true, true, true, true, true] rfl rfl (any_of HT_.out (by kernel_rfl)) (fun _ _ _ h => h) (Or.inl ⟨by rfl, ?_⟩) ?_ ?_
           rotate_left
           ·intro w'
            go_simp
            with_reducible rfl
           rotate_left
           ·simp only [Act.put, LsA, LsZ, LsS, i64_w, i32_w]
            rfl
           refine done_ (done_of HT_.out (by kernel_rfl)) ?_
           try go_wp2
           go_ret
           exact ⟨by first | rfl | (simp [errW_none, errW_some] <;> rfl) | (simp [*, errW_none, errW_some] <;> rfl), by repeat (first | (with_reducible first | exact HB.out | apply below_alloc | apply pw_below_drewN | apply below_drew1 | refine bs ?_ GE172.out | refine bs ?_ GE173.out | refine bs ?_ GE178.out | refine bs ?_ GE182.out) | exact HB.out)⟩
         ·replace c48 := Bool.eq_false_iff.mpr c48
          subst c48
          have H1 : (if t181 = 2 then (if (!(t179 == 0) || (!(t180 == 0))) = true then (some false) else (mainsheetlaw11_BucketChanges.j2 kj12 a1 a2_0 a2_1 a2_2)) else (some false)) = some r := by rw [if_neg (show ¬ (false = true) by decide)] at H; exact H
          clear H
          have H := H1
          clear H1
          by_cases c72 : t181 = 2
          ·rw [if_pos c72] at H
           have c72b0 : (t181 == 2) = true := beq_iff_eq.mpr c72
           have c72b1 : (t181 != 2) = false := bne_eq_false_iff_eq.mpr c72
           clear c72
           by_cases c73 : (!(t179 == 0) || (!(t180 == 0))) = true
           ·rw [if_pos c73] at H
            have c73b0 : (!(t179 == 0) || (!(t180 == 0))) = true := c73
            clear c73
            obtain rfl := Option.some.inj H
            have hnb74 := NB172_173.out
            have hnc74 := NB173_172.out
            have hnb75 := NB172_178.out
            have hnc75 := NB178_172.out
            have hnb76 := NB172_182.out
            have hnc76 := NB182_172.out
            have hcz77_0 : wc.cell? ⟨gb172, 0, none⟩ = some (.int .i64 a0_0) := (blk_cell BK172.out 0).trans rfl
            have hcz77_1 : wc.cell? ⟨gb172, 1, none⟩ = some (.int .i64 a0_1) := (blk_cell BK172.out 1).trans rfl
            have hfz77_0 := blk_frozen BK172.out 0
            have hfz77_1 := blk_frozen BK172.out 1
            go_wp2_with (first | ((with_reducible refine gate_callee (f := 17) rfl ?_); refine goesL_ (some 71) rfl rfl Try.func17 (by kernel_rfl) rfl #[.agg #[.int .i64 a0_0, .int .i64 a0_1]] rfl (by (try simp only [List.map_toArray, List.map_cons, List.map_nil]); first | done | rfl | (simp only [List.length_drop, List.length_take]; rfl)) ?_; (with_reducible refine (mainsheetref11_Right.calls kj12 a0_0 a0_1 true _ A46.out).mono ?_); rintro e w78 ⟨rfl, hb⟩; refine ⟨_, rfl, ?_⟩; have n0_ := Aside0.mk (blk_below (g := gb172) (o := .cells #[.int .i64 a0_0, .int .i64 a0_1] 23 (0, 0)) (by (with_reducible repeat (first | refine bdN ?_ _ | refine bd ?_ | refine ba ?_ _)); exact BK172.out) hb); have n1_ := Aside0.mk (blk_below (g := gb173) (o := .cells #[.int .i64 a2_0, .int .i64 a2_1, .int .i64 a2_2] 33 (0, 0)) (by (with_reducible repeat (first | refine bdN ?_ _ | refine bd ?_ | refine ba ?_ _)); exact BK173.out) hb); have n2_ := Aside0.mk (blk_below (g := gb178) (o := .cells #[.int .i64 t175, .int .i64 t176] 23 (0, 0)) (by (with_reducible repeat (first | refine bdN ?_ _ | refine bd ?_ | refine ba ?_ _)); exact BK178.out) hb); have n3_ := Aside0.mk (blk_below (g := gb182) (o := .cells #[.int .i64 t179, .int .i64 t180] 23 (0, 0)) (by (with_reducible repeat (first | refine bdN ?_ _ | refine bd ?_ | refine ba ?_ _)); exact BK182.out) hb); have n4_ := Aside0.mk (below_step (by repeat (first | (with_reducible first | exact HB.out | apply below_alloc | apply pw_below_drewN | apply below_drew1 | refine bs ?_ GE172.out | refine bs ?_ GE173.out | refine bs ?_ GE178.out | refine bs ?_ GE182.out) | exact HB.out)) hb); clear BK172; clear BK173; clear BK178; clear BK182; clear HB; have BK172 := n0_; have BK173 := n1_; have BK178 := n2_; have BK182 := n3_; have HB := n4_; clear n0_ n1_ n2_ n3_ n4_; (try clear hb); (try clear hb2); (try clear hk); (try clear hi); have hnb79 := NB182_173.out; have hnc79 := NB173_182.out; have hnb80 := NB182_178.out; have hnc80 := NB178_182.out; have hcz81_0 : w78.cell? ⟨gb182, 0, none⟩ = some (.int .i64 t179) := (blk_cell BK182.out 0).trans rfl; have hcz81_1 : w78.cell? ⟨gb182, 1, none⟩ = some (.int .i64 t180) := (blk_cell BK182.out 1).trans rfl; have hfz81_0 := blk_frozen BK182.out 0; have hfz81_1 := blk_frozen BK182.out 1))
            go_ret
            exact ⟨by first | rfl | (simp [errW_none, errW_some] <;> rfl) | (simp [*, errW_none, errW_some] <;> rfl), by repeat (first | (with_reducible first | exact HB.out | apply below_alloc | apply pw_below_drewN | apply below_drew1 | refine bs ?_ GE172.out | refine bs ?_ GE173.out | refine bs ?_ GE178.out | refine bs ?_ GE182.out) | exact HB.out)⟩
           ·rw [if_neg c73] at H
            have c73b0 : (!(t179 == 0) || (!(t180 == 0))) = false := by simpa using c73
            clear c73
            have H' := Aside0.mk H
            clear H
            have hnb82 := NB172_173.out
            have hnc82 := NB173_172.out
            have hnb83 := NB172_178.out
            have hnc83 := NB178_172.out
            have hnb84 := NB172_182.out
            have hnc84 := NB182_172.out
            have hcz85_0 : wc.cell? ⟨gb172, 0, none⟩ = some (.int .i64 a0_0) := (blk_cell BK172.out 0).trans rfl
            have hcz85_1 : wc.cell? ⟨gb172, 1, none⟩ = some (.int .i64 a0_1) := (blk_cell BK172.out 1).trans rfl
            have hfz85_0 := blk_frozen BK172.out 0
            have hfz85_1 := blk_frozen BK172.out 1
            go_wp2_with (first | ((with_reducible refine gate_callee (f := 17) rfl ?_); refine goesL_ (some 71) rfl rfl Try.func17 (by kernel_rfl) rfl #[.agg #[.int .i64 a0_0, .int .i64 a0_1]] rfl (by (try simp only [List.map_toArray, List.map_cons, List.map_nil]); first | done | rfl | (simp only [List.length_drop, List.length_take]; rfl)) ?_; (with_reducible refine (mainsheetref11_Right.calls kj12 a0_0 a0_1 true _ A46.out).mono ?_); rintro e w86 ⟨rfl, hb⟩; refine ⟨_, rfl, ?_⟩; have n0_ := Aside0.mk (blk_below (g := gb172) (o := .cells #[.int .i64 a0_0, .int .i64 a0_1] 23 (0, 0)) (by (with_reducible repeat (first | refine bdN ?_ _ | refine bd ?_ | refine ba ?_ _)); exact BK172.out) hb); have n1_ := Aside0.mk (blk_below (g := gb173) (o := .cells #[.int .i64 a2_0, .int .i64 a2_1, .int .i64 a2_2] 33 (0, 0)) (by (with_reducible repeat (first | refine bdN ?_ _ | refine bd ?_ | refine ba ?_ _)); exact BK173.out) hb); have n2_ := Aside0.mk (blk_below (g := gb178) (o := .cells #[.int .i64 t175, .int .i64 t176] 23 (0, 0)) (by (with_reducible repeat (first | refine bdN ?_ _ | refine bd ?_ | refine ba ?_ _)); exact BK178.out) hb); have n3_ := Aside0.mk (blk_below (g := gb182) (o := .cells #[.int .i64 t179, .int .i64 t180] 23 (0, 0)) (by (with_reducible repeat (first | refine bdN ?_ _ | refine bd ?_ | refine ba ?_ _)); exact BK182.out) hb); have n4_ := Aside0.mk (below_step (by repeat (first | (with_reducible first | exact HB.out | apply below_alloc | apply pw_below_drewN | apply below_drew1 | refine bs ?_ GE172.out | refine bs ?_ GE173.out | refine bs ?_ GE178.out | refine bs ?_ GE182.out) | exact HB.out)) hb); clear BK172; clear BK173; clear BK178; clear BK182; clear HB; have BK172 := n0_; have BK173 := n1_; have BK178 := n2_; have BK182 := n3_; have HB := n4_; clear n0_ n1_ n2_ n3_ n4_; (try clear hb); (try clear hb2); (try clear hk); (try clear hi); have hnb87 := NB182_173.out; have hnc87 := NB173_182.out; have hnb88 := NB182_178.out; have hnc88 := NB178_182.out; have hcz89_0 : w86.cell? ⟨gb182, 0, none⟩ = some (.int .i64 t179) := (blk_cell BK182.out 0).trans rfl; have hcz89_1 : w86.cell? ⟨gb182, 1, none⟩ = some (.int .i64 t180) := (blk_cell BK182.out 1).trans rfl; have hfz89_0 := blk_frozen BK182.out 0; have hfz89_1 := blk_frozen BK182.out 1))
            go_meet
            case rel => exact ⟨_, H', ⟨by have := HJ5.out; have := HJ12.out; first | omega | exact Nat.le_refl _⟩, ⟨by (with_reducible repeat (first | refine bdN ?_ _ | refine bd ?_ | refine ba ?_ _)); exact BK172.out⟩, ⟨by (with_reducible repeat (first | refine bdN ?_ _ | refine bd ?_ | refine ba ?_ _)); exact BK173.out⟩, ⟨by (with_reducible repeat (first | refine bdN ?_ _ | refine bd ?_ | refine ba ?_ _)); exact BK178.out⟩, ⟨by (with_reducible repeat (first | refine bdN ?_ _ | refine bd ?_ | refine ba ?_ _)); exact BK182.out⟩, ⟨by repeat (first | (with_reducible first | exact HB.out | apply below_alloc | apply pw_below_drewN | apply below_drew1 | refine bs ?_ GE172.out | refine bs ?_ GE173.out | refine bs ?_ GE178.out | refine bs ?_ GE182.out) | exact HB.out)⟩⟩
          ·rw [if_neg c72] at H
           have c72b0 : (t181 == 2) = false := beq_eq_false_iff_ne.mpr c72
           have c72b1 : (t181 != 2) = true := bne_iff_ne.mpr c72
           obtain rfl := Option.some.inj H
           have hnb90 := NB172_173.out
           have hnc90 := NB173_172.out
           have hnb91 := NB172_178.out
           have hnc91 := NB178_172.out
           have hnb92 := NB172_182.out
           have hnc92 := NB182_172.out
           have hcz93_0 : wc.cell? ⟨gb172, 0, none⟩ = some (.int .i64 a0_0) := (blk_cell BK172.out 0).trans rfl
           have hcz93_1 : wc.cell? ⟨gb172, 1, none⟩ = some (.int .i64 a0_1) := (blk_cell BK172.out 1).trans rfl
           have hfz93_0 := blk_frozen BK172.out 0
           have hfz93_1 := blk_frozen BK172.out 1
           go_wp2_with (first | ((with_reducible refine gate_callee (f := 17) rfl ?_); refine goesL_ (some 71) rfl rfl Try.func17 (by kernel_rfl) rfl #[.agg #[.int .i64 a0_0, .int .i64 a0_1]] rfl (by (try simp only [List.map_toArray, List.map_cons, List.map_nil]); first | done | rfl | (simp only [List.length_drop, List.length_take]; rfl)) ?_; (with_reducible refine (mainsheetref11_Right.calls kj12 a0_0 a0_1 true _ A46.out).mono ?_); rintro e w94 ⟨rfl, hb⟩; refine ⟨_, rfl, ?_⟩; have n0_ := Aside0.mk (blk_below (g := gb172) (o := .cells #[.int .i64 a0_0, .int .i64 a0_1] 23 (0, 0)) (by (with_reducible repeat (first | refine bdN ?_ _ | refine bd ?_ | refine ba ?_ _)); exact BK172.out) hb); have n1_ := Aside0.mk (blk_below (g := gb173) (o := .cells #[.int .i64 a2_0, .int .i64 a2_1, .int .i64 a2_2] 33 (0, 0)) (by (with_reducible repeat (first | refine bdN ?_ _ | refine bd ?_ | refine ba ?_ _)); exact BK173.out) hb); have n2_ := Aside0.mk (blk_below (g := gb178) (o := .cells #[.int .i64 t175, .int .i64 t176] 23 (0, 0)) (by (with_reducible repeat (first | refine bdN ?_ _ | refine bd ?_ | refine ba ?_ _)); exact BK178.out) hb); have n3_ := Aside0.mk (blk_below (g := gb182) (o := .cells #[.int .i64 t179, .int .i64 t180] 23 (0, 0)) (by (with_reducible repeat (first | refine bdN ?_ _ | refine bd ?_ | refine ba ?_ _)); exact BK182.out) hb); have n4_ := Aside0.mk (below_step (by repeat (first | (with_reducible first | exact HB.out | apply below_alloc | apply pw_below_drewN | apply below_drew1 | refine bs ?_ GE172.out | refine bs ?_ GE173.out | refine bs ?_ GE178.out | refine bs ?_ GE182.out) | exact HB.out)) hb); clear BK172; clear BK173; clear BK178; clear BK182; clear HB; have BK172 := n0_; have BK173 := n1_; have BK178 := n2_; have BK182 := n3_; have HB := n4_; clear n0_ n1_ n2_ n3_ n4_; (try clear hb); (try clear hb2); (try clear hk); (try clear hi)))
           go_ret
           exact ⟨by first | rfl | (simp [errW_none, errW_some] <;> rfl) | (simp [*, errW_none, errW_some] <;> rfl), by repeat (first | (with_reducible first | exact HB.out | apply below_alloc | apply pw_below_drewN | apply below_drew1 | refine bs ?_ GE172.out | refine bs ?_ GE173.out | refine bs ?_ GE178.out | refine bs ?_ GE182.out) | exact HB.out)⟩
        ·replace c47 := Bool.eq_false_iff.mpr c47
         subst c47
         have H1 : (if t181 = 210 then (if (!(t179 == 0) || (!(t180 == 0))) = true then (some false) else (mainsheetlaw11_BucketChanges.j2 kj12 a1 a2_0 a2_1 a2_2)) else (some false)) = some r := by rw [if_neg (show ¬ (false = true) by decide)] at H; exact H
         clear H
         have H := H1
         clear H1
         by_cases c95 : t181 = 210
         ·rw [if_pos c95] at H
          have c95b0 : (t181 == 210) = true := beq_iff_eq.mpr c95
          have c95b1 : (t181 != 210) = false := bne_eq_false_iff_eq.mpr c95
          clear c95
          by_cases c96 : (!(t179 == 0) || (!(t180 == 0))) = true
          ·rw [if_pos c96] at H
           have c96b0 : (!(t179 == 0) || (!(t180 == 0))) = true := c96
           clear c96
           obtain rfl := Option.some.inj H
           have hnb97 := NB172_173.out
           have hnc97 := NB173_172.out
           have hnb98 := NB172_178.out
           have hnc98 := NB178_172.out
           have hnb99 := NB172_182.out
           have hnc99 := NB182_172.out
           have hcz100_0 : wc.cell? ⟨gb172, 0, none⟩ = some (.int .i64 a0_0) := (blk_cell BK172.out 0).trans rfl
           have hcz100_1 : wc.cell? ⟨gb172, 1, none⟩ = some (.int .i64 a0_1) := (blk_cell BK172.out 1).trans rfl
           have hfz100_0 := blk_frozen BK172.out 0
           have hfz100_1 := blk_frozen BK172.out 1
           go_wp2_with (first | ((with_reducible refine gate_callee (f := 17) rfl ?_); refine goesL_ (some 71) rfl rfl Try.func17 (by kernel_rfl) rfl #[.agg #[.int .i64 a0_0, .int .i64 a0_1]] rfl (by (try simp only [List.map_toArray, List.map_cons, List.map_nil]); first | done | rfl | (simp only [List.length_drop, List.length_take]; rfl)) ?_; (with_reducible refine (mainsheetref11_Right.calls kj12 a0_0 a0_1 false _ A46.out).mono ?_); rintro e w101 ⟨rfl, hb⟩; refine ⟨_, rfl, ?_⟩; have n0_ := Aside0.mk (blk_below (g := gb172) (o := .cells #[.int .i64 a0_0, .int .i64 a0_1] 23 (0, 0)) (by (with_reducible repeat (first | refine bdN ?_ _ | refine bd ?_ | refine ba ?_ _)); exact BK172.out) hb); have n1_ := Aside0.mk (blk_below (g := gb173) (o := .cells #[.int .i64 a2_0, .int .i64 a2_1, .int .i64 a2_2] 33 (0, 0)) (by (with_reducible repeat (first | refine bdN ?_ _ | refine bd ?_ | refine ba ?_ _)); exact BK173.out) hb); have n2_ := Aside0.mk (blk_below (g := gb178) (o := .cells #[.int .i64 t175, .int .i64 t176] 23 (0, 0)) (by (with_reducible repeat (first | refine bdN ?_ _ | refine bd ?_ | refine ba ?_ _)); exact BK178.out) hb); have n3_ := Aside0.mk (blk_below (g := gb182) (o := .cells #[.int .i64 t179, .int .i64 t180] 23 (0, 0)) (by (with_reducible repeat (first | refine bdN ?_ _ | refine bd ?_ | refine ba ?_ _)); exact BK182.out) hb); have n4_ := Aside0.mk (below_step (by repeat (first | (with_reducible first | exact HB.out | apply below_alloc | apply pw_below_drewN | apply below_drew1 | refine bs ?_ GE172.out | refine bs ?_ GE173.out | refine bs ?_ GE178.out | refine bs ?_ GE182.out) | exact HB.out)) hb); clear BK172; clear BK173; clear BK178; clear BK182; clear HB; have BK172 := n0_; have BK173 := n1_; have BK178 := n2_; have BK182 := n3_; have HB := n4_; clear n0_ n1_ n2_ n3_ n4_; (try clear hb); (try clear hb2); (try clear hk); (try clear hi); have hnb102 := NB182_173.out; have hnc102 := NB173_182.out; have hnb103 := NB182_178.out; have hnc103 := NB178_182.out; have hcz104_0 : w101.cell? ⟨gb182, 0, none⟩ = some (.int .i64 t179) := (blk_cell BK182.out 0).trans rfl; have hcz104_1 : w101.cell? ⟨gb182, 1, none⟩ = some (.int .i64 t180) := (blk_cell BK182.out 1).trans rfl; have hfz104_0 := blk_frozen BK182.out 0; have hfz104_1 := blk_frozen BK182.out 1))
           go_ret
           exact ⟨by first | rfl | (simp [errW_none, errW_some] <;> rfl) | (simp [*, errW_none, errW_some] <;> rfl), by repeat (first | (with_reducible first | exact HB.out | apply below_alloc | apply pw_below_drewN | apply below_drew1 | refine bs ?_ GE172.out | refine bs ?_ GE173.out | refine bs ?_ GE178.out | refine bs ?_ GE182.out) | exact HB.out)⟩
          ·rw [if_neg c96] at H
           have c96b0 : (!(t179 == 0) || (!(t180 == 0))) = false := by simpa using c96
           clear c96
           have H' := Aside0.mk H
           clear H
           have hnb105 := NB172_173.out
           have hnc105 := NB173_172.out
           have hnb106 := NB172_178.out
           have hnc106 := NB178_172.out
           have hnb107 := NB172_182.out
           have hnc107 := NB182_172.out
           have hcz108_0 : wc.cell? ⟨gb172, 0, none⟩ = some (.int .i64 a0_0) := (blk_cell BK172.out 0).trans rfl
           have hcz108_1 : wc.cell? ⟨gb172, 1, none⟩ = some (.int .i64 a0_1) := (blk_cell BK172.out 1).trans rfl
           have hfz108_0 := blk_frozen BK172.out 0
           have hfz108_1 := blk_frozen BK172.out 1
           go_wp2_with (first | ((with_reducible refine gate_callee (f := 17) rfl ?_); refine goesL_ (some 71) rfl rfl Try.func17 (by kernel_rfl) rfl #[.agg #[.int .i64 a0_0, .int .i64 a0_1]] rfl (by (try simp only [List.map_toArray, List.map_cons, List.map_nil]); first | done | rfl | (simp only [List.length_drop, List.length_take]; rfl)) ?_; (with_reducible refine (mainsheetref11_Right.calls kj12 a0_0 a0_1 false _ A46.out).mono ?_); rintro e w109 ⟨rfl, hb⟩; refine ⟨_, rfl, ?_⟩; have n0_ := Aside0.mk (blk_below (g := gb172) (o := .cells #[.int .i64 a0_0, .int .i64 a0_1] 23 (0, 0)) (by (with_reducible repeat (first | refine bdN ?_ _ | refine bd ?_ | refine ba ?_ _)); exact BK172.out) hb); have n1_ := Aside0.mk (blk_below (g := gb173) (o := .cells #[.int .i64 a2_0, .int .i64 a2_1, .int .i64 a2_2] 33 (0, 0)) (by (with_reducible repeat (first | refine bdN ?_ _ | refine bd ?_ | refine ba ?_ _)); exact BK173.out) hb); have n2_ := Aside0.mk (blk_below (g := gb178) (o := .cells #[.int .i64 t175, .int .i64 t176] 23 (0, 0)) (by (with_reducible repeat (first | refine bdN ?_ _ | refine bd ?_ | refine ba ?_ _)); exact BK178.out) hb); have n3_ := Aside0.mk (blk_below (g := gb182) (o := .cells #[.int .i64 t179, .int .i64 t180] 23 (0, 0)) (by (with_reducible repeat (first | refine bdN ?_ _ | refine bd ?_ | refine ba ?_ _)); exact BK182.out) hb); have n4_ := Aside0.mk (below_step (by repeat (first | (with_reducible first | exact HB.out | apply below_alloc | apply pw_below_drewN | apply below_drew1 | refine bs ?_ GE172.out | refine bs ?_ GE173.out | refine bs ?_ GE178.out | refine bs ?_ GE182.out) | exact HB.out)) hb); clear BK172; clear BK173; clear BK178; clear BK182; clear HB; have BK172 := n0_; have BK173 := n1_; have BK178 := n2_; have BK182 := n3_; have HB := n4_; clear n0_ n1_ n2_ n3_ n4_; (try clear hb); (try clear hb2); (try clear hk); (try clear hi); have hnb110 := NB182_173.out; have hnc110 := NB173_182.out; have hnb111 := NB182_178.out; have hnc111 := NB178_182.out; have hcz112_0 : w109.cell? ⟨gb182, 0, none⟩ = some (.int .i64 t179) := (blk_cell BK182.out 0).trans rfl; have hcz112_1 : w109.cell? ⟨gb182, 1, none⟩ = some (.int .i64 t180) := (blk_cell BK182.out 1).trans rfl; have hfz112_0 := blk_frozen BK182.out 0; have hfz112_1 := blk_frozen BK182.out 1))
           go_meet
           case rel => exact ⟨_, H', ⟨by have := HJ5.out; have := HJ12.out; first | omega | exact Nat.le_refl _⟩, ⟨by (with_reducible repeat (first | refine bdN ?_ _ | refine bd ?_ | refine ba ?_ _)); exact BK172.out⟩, ⟨by (with_reducible repeat (first | refine bdN ?_ _ | refine bd ?_ | refine ba ?_ _)); exact BK173.out⟩, ⟨by (with_reducible repeat (first | refine bdN ?_ _ | refine bd ?_ | refine ba ?_ _)); exact BK178.out⟩, ⟨by (with_reducible repeat (first | refine bdN ?_ _ | refine bd ?_ | refine ba ?_ _)); exact BK182.out⟩, ⟨by repeat (first | (with_reducible first | exact HB.out | apply below_alloc | apply pw_below_drewN | apply below_drew1 | refine bs ?_ GE172.out | refine bs ?_ GE173.out | refine bs ?_ GE178.out | refine bs ?_ GE182.out) | exact HB.out)⟩⟩
         ·rw [if_neg c95] at H
          have c95b0 : (t181 == 210) = false := beq_eq_false_iff_ne.mpr c95
          have c95b1 : (t181 != 210) = true := bne_iff_ne.mpr c95
          obtain rfl := Option.some.inj H
          have hnb113 := NB172_173.out
          have hnc113 := NB173_172.out
          have hnb114 := NB172_178.out
          have hnc114 := NB178_172.out
          have hnb115 := NB172_182.out
          have hnc115 := NB182_172.out
          have hcz116_0 : wc.cell? ⟨gb172, 0, none⟩ = some (.int .i64 a0_0) := (blk_cell BK172.out 0).trans rfl
          have hcz116_1 : wc.cell? ⟨gb172, 1, none⟩ = some (.int .i64 a0_1) := (blk_cell BK172.out 1).trans rfl
          have hfz116_0 := blk_frozen BK172.out 0
          have hfz116_1 := blk_frozen BK172.out 1
          go_wp2_with (first | ((with_reducible refine gate_callee (f := 17) rfl ?_); refine goesL_ (some 71) rfl rfl Try.func17 (by kernel_rfl) rfl #[.agg #[.int .i64 a0_0, .int .i64 a0_1]] rfl (by (try simp only [List.map_toArray, List.map_cons, List.map_nil]); first | done | rfl | (simp only [List.length_drop, List.length_take]; rfl)) ?_; (with_reducible refine (mainsheetref11_Right.calls kj12 a0_0 a0_1 false _ A46.out).mono ?_); rintro e w117 ⟨rfl, hb⟩; refine ⟨_, rfl, ?_⟩; have n0_ := Aside0.mk (blk_below (g := gb172) (o := .cells #[.int .i64 a0_0, .int .i64 a0_1] 23 (0, 0)) (by (with_reducible repeat (first | refine bdN ?_ _ | refine bd ?_ | refine ba ?_ _)); exact BK172.out) hb); have n1_ := Aside0.mk (blk_below (g := gb173) (o := .cells #[.int .i64 a2_0, .int .i64 a2_1, .int .i64 a2_2] 33 (0, 0)) (by (with_reducible repeat (first | refine bdN ?_ _ | refine bd ?_ | refine ba ?_ _)); exact BK173.out) hb); have n2_ := Aside0.mk (blk_below (g := gb178) (o := .cells #[.int .i64 t175, .int .i64 t176] 23 (0, 0)) (by (with_reducible repeat (first | refine bdN ?_ _ | refine bd ?_ | refine ba ?_ _)); exact BK178.out) hb); have n3_ := Aside0.mk (blk_below (g := gb182) (o := .cells #[.int .i64 t179, .int .i64 t180] 23 (0, 0)) (by (with_reducible repeat (first | refine bdN ?_ _ | refine bd ?_ | refine ba ?_ _)); exact BK182.out) hb); have n4_ := Aside0.mk (below_step (by repeat (first | (with_reducible first | exact HB.out | apply below_alloc | apply pw_below_drewN | apply below_drew1 | refine bs ?_ GE172.out | refine bs ?_ GE173.out | refine bs ?_ GE178.out | refine bs ?_ GE182.out) | exact HB.out)) hb); clear BK172; clear BK173; clear BK178; clear BK182; clear HB; have BK172 := n0_; have BK173 := n1_; have BK178 := n2_; have BK182 := n3_; have HB := n4_; clear n0_ n1_ n2_ n3_ n4_; (try clear hb); (try clear hb2); (try clear hk); (try clear hi)))
          go_ret
          exact ⟨by first | rfl | (simp [errW_none, errW_some] <;> rfl) | (simp [*, errW_none, errW_some] <;> rfl), by repeat (first | (with_reducible first | exact HB.out | apply below_alloc | apply pw_below_drewN | apply below_drew1 | refine bs ?_ GE172.out | refine bs ?_ GE173.out | refine bs ?_ GE178.out | refine bs ?_ GE182.out) | exact HB.out)⟩
       case rest =>
        clear HC45
        try clear c1
        try clear c2
        try clear p2
        try clear c3
        try clear c4
        try clear c5
        try clear c6
        try clear c7
        try clear c8
        try clear c9
        try clear c10
        try clear c11
        try clear c17
        try clear c22
        try clear c30
        try clear c39
        try clear c39b0
        try clear c44
        try clear c47
        try clear c48
        try clear c49
        try clear c49b0
        try clear c49b1
        try clear c51
        try clear c51b0
        try clear c52
        try clear c53
        try clear c54
        try clear c59
        try clear c60
        try clear c61
        try clear c66
        try clear c67
        try clear c68
        try clear c72
        try clear c72b0
        try clear c72b1
        try clear c73
        try clear c73b0
        try clear c74
        try clear c75
        try clear c76
        try clear c79
        try clear c80
        try clear c82
        try clear c83
        try clear c84
        try clear c87
        try clear c88
        try clear c90
        try clear c91
        try clear c92
        try clear c95
        try clear c95b0
        try clear c95b1
        try clear c96
        try clear c96b0
        try clear c97
        try clear c98
        try clear c99
        try clear c102
        try clear c103
        try clear c105
        try clear c106
        try clear c107
        try clear c110
        try clear c111
        try clear c113
        try clear c114
        try clear c115
        try clear hcz100_0
        try clear hcz100_1
        try clear hcz104_0
        try clear hcz104_1
        try clear hcz108_0
        try clear hcz108_1
        try clear hcz112_0
        try clear hcz112_1
        try clear hcz116_0
        try clear hcz116_1
        try clear hcz55_0
        try clear hcz55_1
        try clear hcz62_0
        try clear hcz62_1
        try clear hcz69_0
        try clear hcz69_1
        try clear hcz77_0
        try clear hcz77_1
        try clear hcz81_0
        try clear hcz81_1
        try clear hcz85_0
        try clear hcz85_1
        try clear hcz89_0
        try clear hcz89_1
        try clear hcz93_0
        try clear hcz93_1
        try clear hfz100_0
        try clear hfz100_1
        try clear hfz104_0
        try clear hfz104_1
        try clear hfz108_0
        try clear hfz108_1
        try clear hfz112_0
        try clear hfz112_1
        try clear hfz116_0
        try clear hfz116_1
        try clear hfz55_0
        try clear hfz55_1
        try clear hfz62_0
        try clear hfz62_1
        try clear hfz69_0
        try clear hfz69_1
        try clear hfz77_0
        try clear hfz77_1
        try clear hfz81_0
        try clear hfz81_1
        try clear hfz85_0
        try clear hfz85_1
        try clear hfz89_0
        try clear hfz89_1
        try clear hfz93_0
        try clear hfz93_1
        try clear p2
        obtain ⟨kq, HA, HJ44, BK172, BK173, BK178, BK182, HB⟩ := hcut
        cases kq with
        | zero => exact absurd HA.out (by simp [mainsheetlaw11_BucketChanges.j2])
        | succ kj44 =>
         have H := HA.out
         clear HA
         simp only [mainsheetlaw11_BucketChanges.j2] at H
         replace H := Option.bind_eq_some_iff.mp H
         obtain ⟨⟨t188, t189⟩, A1180, H⟩ := H
         replace H : (if a1 < 1 then (if t188 = 0 then (some (t189 == 2)) else (some false)) else (if a1 > 800 then (if t188 = 0 then (some (t189 == 2)) else (some false)) else (if a2_0 < 0 then (if t188 = 0 then (some (t189 == 2)) else (some false)) else (if a2_0 > 1125899906842624 then (if t188 = 0 then (some (t189 == 2)) else (some false)) else (if a2_1 < 0 then (if t188 = 0 then (some (t189 == 2)) else (some false)) else (if a2_1 > 10000000 then (if t188 = 0 then (some (t189 == 2)) else (some false)) else (if a2_2 < 0 then (if t188 = 0 then (some (t189 == 2)) else (some false)) else (if a2_2 > 8 then (if t188 = 0 then (some (t189 == 2)) else (some false)) else (if t189 = 0 then ((mainsheetref11_Depth.f a1).bind fun t190 => (some (t188 == (wrap64 ((wrap64 ((wrap64 (a1 * a2_0)) + t190)) + (wrap64 ((wrap64 (100 * a2_2)) * a2_1))))))) else (some false)))))))))) = some r := H
         have A118 := Aside0.mk A1180
         clear A1180
         by_cases c119 : a1 < 1
         ·rw [if_pos c119] at H
          have c119b0 : decide (a1 < 1) = true := decide_eq_true c119
          clear c119
          by_cases c120 : t188 = 0
          ·rw [if_pos c120] at H
           have c120b0 : (t188 == 0) = true := beq_iff_eq.mpr c120
           have c120b1 : (t188 != 0) = false := bne_eq_false_iff_eq.mpr c120
           clear c120
           obtain rfl := Option.some.inj H
           have hnb121 := NB173_172.out
           have hnc121 := NB172_173.out
           have hnb122 := NB173_178.out
           have hnc122 := NB178_173.out
           have hnb123 := NB173_182.out
           have hnc123 := NB182_173.out
           have hcz124_0 : wc.cell? ⟨gb173, 0, none⟩ = some (.int .i64 a2_0) := (blk_cell BK173.out 0).trans rfl
           have hcz124_1 : wc.cell? ⟨gb173, 1, none⟩ = some (.int .i64 a2_1) := (blk_cell BK173.out 1).trans rfl
           have hcz124_2 : wc.cell? ⟨gb173, 2, none⟩ = some (.int .i64 a2_2) := (blk_cell BK173.out 2).trans rfl
           have hfz124_0 := blk_frozen BK173.out 0
           have hfz124_1 := blk_frozen BK173.out 1
           have hfz124_2 := blk_frozen BK173.out 2
           go_wp2_with (first | ((with_reducible refine gate_callee (f := 14) rfl ?_); refine goesL_ (some 98) rfl rfl Try.func14 (by kernel_rfl) rfl #[.int .i64 a1, .int .i64 a2_0, .int .i64 a2_1, .int .i64 a2_2] rfl (by (try simp only [List.map_toArray, List.map_cons, List.map_nil]); first | done | rfl | (simp only [List.length_drop, List.length_take]; rfl)) ?_; (with_reducible refine (bucket_Bound.calls kj44 a1 a2_0 a2_1 a2_2 t188 t189 _ A118.out).mono ?_); rintro e w125 ⟨rfl, hb⟩; refine ⟨_, rfl, ?_⟩; have n0_ := Aside0.mk (blk_below (g := gb172) (o := .cells #[.int .i64 a0_0, .int .i64 a0_1] 23 (0, 0)) (by (with_reducible repeat (first | refine bdN ?_ _ | refine bd ?_ | refine ba ?_ _)); exact BK172.out) hb); have n1_ := Aside0.mk (blk_below (g := gb173) (o := .cells #[.int .i64 a2_0, .int .i64 a2_1, .int .i64 a2_2] 33 (0, 0)) (by (with_reducible repeat (first | refine bdN ?_ _ | refine bd ?_ | refine ba ?_ _)); exact BK173.out) hb); have n2_ := Aside0.mk (blk_below (g := gb178) (o := .cells #[.int .i64 t175, .int .i64 t176] 23 (0, 0)) (by (with_reducible repeat (first | refine bdN ?_ _ | refine bd ?_ | refine ba ?_ _)); exact BK178.out) hb); have n3_ := Aside0.mk (blk_below (g := gb182) (o := .cells #[.int .i64 t179, .int .i64 t180] 23 (0, 0)) (by (with_reducible repeat (first | refine bdN ?_ _ | refine bd ?_ | refine ba ?_ _)); exact BK182.out) hb); have n4_ := Aside0.mk (below_step (by repeat (first | (with_reducible first | exact HB.out | apply below_alloc | apply pw_below_drewN | apply below_drew1 | refine bs ?_ GE172.out | refine bs ?_ GE173.out | refine bs ?_ GE178.out | refine bs ?_ GE182.out) | exact HB.out)) hb); clear BK172; clear BK173; clear BK178; clear BK182; clear HB; have BK172 := n0_; have BK173 := n1_; have BK178 := n2_; have BK182 := n3_; have HB := n4_; clear n0_ n1_ n2_ n3_ n4_; (try clear hb); (try clear hb2); (try clear hk); (try clear hi)))
           go_ret
           exact ⟨by first | rfl | (simp [errW_none, errW_some] <;> rfl) | (simp [*, errW_none, errW_some] <;> rfl), by repeat (first | (with_reducible first | exact HB.out | apply below_alloc | apply pw_below_drewN | apply below_drew1 | refine bs ?_ GE172.out | refine bs ?_ GE173.out | refine bs ?_ GE178.out | refine bs ?_ GE182.out) | exact HB.out)⟩
          ·rw [if_neg c120] at H
           have c120b0 : (t188 == 0) = false := beq_eq_false_iff_ne.mpr c120
           have c120b1 : (t188 != 0) = true := bne_iff_ne.mpr c120
           obtain rfl := Option.some.inj H
           have hnb126 := NB173_172.out
           have hnc126 := NB172_173.out
           have hnb127 := NB173_178.out
           have hnc127 := NB178_173.out
           have hnb128 := NB173_182.out
           have hnc128 := NB182_173.out
           have hcz129_0 : wc.cell? ⟨gb173, 0, none⟩ = some (.int .i64 a2_0) := (blk_cell BK173.out 0).trans rfl
           have hcz129_1 : wc.cell? ⟨gb173, 1, none⟩ = some (.int .i64 a2_1) := (blk_cell BK173.out 1).trans rfl
           have hcz129_2 : wc.cell? ⟨gb173, 2, none⟩ = some (.int .i64 a2_2) := (blk_cell BK173.out 2).trans rfl
           have hfz129_0 := blk_frozen BK173.out 0
           have hfz129_1 := blk_frozen BK173.out 1
           have hfz129_2 := blk_frozen BK173.out 2
           go_wp2_with (first | ((with_reducible refine gate_callee (f := 14) rfl ?_); refine goesL_ (some 98) rfl rfl Try.func14 (by kernel_rfl) rfl #[.int .i64 a1, .int .i64 a2_0, .int .i64 a2_1, .int .i64 a2_2] rfl (by (try simp only [List.map_toArray, List.map_cons, List.map_nil]); first | done | rfl | (simp only [List.length_drop, List.length_take]; rfl)) ?_; (with_reducible refine (bucket_Bound.calls kj44 a1 a2_0 a2_1 a2_2 t188 t189 _ A118.out).mono ?_); rintro e w130 ⟨rfl, hb⟩; refine ⟨_, rfl, ?_⟩; have n0_ := Aside0.mk (blk_below (g := gb172) (o := .cells #[.int .i64 a0_0, .int .i64 a0_1] 23 (0, 0)) (by (with_reducible repeat (first | refine bdN ?_ _ | refine bd ?_ | refine ba ?_ _)); exact BK172.out) hb); have n1_ := Aside0.mk (blk_below (g := gb173) (o := .cells #[.int .i64 a2_0, .int .i64 a2_1, .int .i64 a2_2] 33 (0, 0)) (by (with_reducible repeat (first | refine bdN ?_ _ | refine bd ?_ | refine ba ?_ _)); exact BK173.out) hb); have n2_ := Aside0.mk (blk_below (g := gb178) (o := .cells #[.int .i64 t175, .int .i64 t176] 23 (0, 0)) (by (with_reducible repeat (first | refine bdN ?_ _ | refine bd ?_ | refine ba ?_ _)); exact BK178.out) hb); have n3_ := Aside0.mk (blk_below (g := gb182) (o := .cells #[.int .i64 t179, .int .i64 t180] 23 (0, 0)) (by (with_reducible repeat (first | refine bdN ?_ _ | refine bd ?_ | refine ba ?_ _)); exact BK182.out) hb); have n4_ := Aside0.mk (below_step (by repeat (first | (with_reducible first | exact HB.out | apply below_alloc | apply pw_below_drewN | apply below_drew1 | refine bs ?_ GE172.out | refine bs ?_ GE173.out | refine bs ?_ GE178.out | refine bs ?_ GE182.out) | exact HB.out)) hb); clear BK172; clear BK173; clear BK178; clear BK182; clear HB; have BK172 := n0_; have BK173 := n1_; have BK178 := n2_; have BK182 := n3_; have HB := n4_; clear n0_ n1_ n2_ n3_ n4_; (try clear hb); (try clear hb2); (try clear hk); (try clear hi)))
           go_ret
           exact ⟨by first | rfl | (simp [errW_none, errW_some] <;> rfl) | (simp [*, errW_none, errW_some] <;> rfl), by repeat (first | (with_reducible first | exact HB.out | apply below_alloc | apply pw_below_drewN | apply below_drew1 | refine bs ?_ GE172.out | refine bs ?_ GE173.out | refine bs ?_ GE178.out | refine bs ?_ GE182.out) | exact HB.out)⟩
         ·rw [if_neg c119] at H
          have c119b0 : decide (a1 < 1) = false := decide_eq_false c119
          clear c119
          by_cases c131 : a1 > 800
          ·rw [if_pos c131] at H
           have c131b0 : decide (800 < a1) = true := decide_eq_true c131
           clear c131
           by_cases c132 : t188 = 0
           ·rw [if_pos c132] at H
            have c132b0 : (t188 == 0) = true := beq_iff_eq.mpr c132
            have c132b1 : (t188 != 0) = false := bne_eq_false_iff_eq.mpr c132
            clear c132
            obtain rfl := Option.some.inj H
            have hnb133 := NB173_172.out
            have hnc133 := NB172_173.out
            have hnb134 := NB173_178.out
            have hnc134 := NB178_173.out
            have hnb135 := NB173_182.out
            have hnc135 := NB182_173.out
            have hcz136_0 : wc.cell? ⟨gb173, 0, none⟩ = some (.int .i64 a2_0) := (blk_cell BK173.out 0).trans rfl
            have hcz136_1 : wc.cell? ⟨gb173, 1, none⟩ = some (.int .i64 a2_1) := (blk_cell BK173.out 1).trans rfl
            have hcz136_2 : wc.cell? ⟨gb173, 2, none⟩ = some (.int .i64 a2_2) := (blk_cell BK173.out 2).trans rfl
            have hfz136_0 := blk_frozen BK173.out 0
            have hfz136_1 := blk_frozen BK173.out 1
            have hfz136_2 := blk_frozen BK173.out 2
            go_wp2_with (first | ((with_reducible refine gate_callee (f := 14) rfl ?_); refine goesL_ (some 98) rfl rfl Try.func14 (by kernel_rfl) rfl #[.int .i64 a1, .int .i64 a2_0, .int .i64 a2_1, .int .i64 a2_2] rfl (by (try simp only [List.map_toArray, List.map_cons, List.map_nil]); first | done | rfl | (simp only [List.length_drop, List.length_take]; rfl)) ?_; (with_reducible refine (bucket_Bound.calls kj44 a1 a2_0 a2_1 a2_2 t188 t189 _ A118.out).mono ?_); rintro e w137 ⟨rfl, hb⟩; refine ⟨_, rfl, ?_⟩; have n0_ := Aside0.mk (blk_below (g := gb172) (o := .cells #[.int .i64 a0_0, .int .i64 a0_1] 23 (0, 0)) (by (with_reducible repeat (first | refine bdN ?_ _ | refine bd ?_ | refine ba ?_ _)); exact BK172.out) hb); have n1_ := Aside0.mk (blk_below (g := gb173) (o := .cells #[.int .i64 a2_0, .int .i64 a2_1, .int .i64 a2_2] 33 (0, 0)) (by (with_reducible repeat (first | refine bdN ?_ _ | refine bd ?_ | refine ba ?_ _)); exact BK173.out) hb); have n2_ := Aside0.mk (blk_below (g := gb178) (o := .cells #[.int .i64 t175, .int .i64 t176] 23 (0, 0)) (by (with_reducible repeat (first | refine bdN ?_ _ | refine bd ?_ | refine ba ?_ _)); exact BK178.out) hb); have n3_ := Aside0.mk (blk_below (g := gb182) (o := .cells #[.int .i64 t179, .int .i64 t180] 23 (0, 0)) (by (with_reducible repeat (first | refine bdN ?_ _ | refine bd ?_ | refine ba ?_ _)); exact BK182.out) hb); have n4_ := Aside0.mk (below_step (by repeat (first | (with_reducible first | exact HB.out | apply below_alloc | apply pw_below_drewN | apply below_drew1 | refine bs ?_ GE172.out | refine bs ?_ GE173.out | refine bs ?_ GE178.out | refine bs ?_ GE182.out) | exact HB.out)) hb); clear BK172; clear BK173; clear BK178; clear BK182; clear HB; have BK172 := n0_; have BK173 := n1_; have BK178 := n2_; have BK182 := n3_; have HB := n4_; clear n0_ n1_ n2_ n3_ n4_; (try clear hb); (try clear hb2); (try clear hk); (try clear hi)))
            go_ret
            exact ⟨by first | rfl | (simp [errW_none, errW_some] <;> rfl) | (simp [*, errW_none, errW_some] <;> rfl), by repeat (first | (with_reducible first | exact HB.out | apply below_alloc | apply pw_below_drewN | apply below_drew1 | refine bs ?_ GE172.out | refine bs ?_ GE173.out | refine bs ?_ GE178.out | refine bs ?_ GE182.out) | exact HB.out)⟩
           ·rw [if_neg c132] at H
            have c132b0 : (t188 == 0) = false := beq_eq_false_iff_ne.mpr c132
            have c132b1 : (t188 != 0) = true := bne_iff_ne.mpr c132
            obtain rfl := Option.some.inj H
            have hnb138 := NB173_172.out
            have hnc138 := NB172_173.out
            have hnb139 := NB173_178.out
            have hnc139 := NB178_173.out
            have hnb140 := NB173_182.out
            have hnc140 := NB182_173.out
            have hcz141_0 : wc.cell? ⟨gb173, 0, none⟩ = some (.int .i64 a2_0) := (blk_cell BK173.out 0).trans rfl
            have hcz141_1 : wc.cell? ⟨gb173, 1, none⟩ = some (.int .i64 a2_1) := (blk_cell BK173.out 1).trans rfl
            have hcz141_2 : wc.cell? ⟨gb173, 2, none⟩ = some (.int .i64 a2_2) := (blk_cell BK173.out 2).trans rfl
            have hfz141_0 := blk_frozen BK173.out 0
            have hfz141_1 := blk_frozen BK173.out 1
            have hfz141_2 := blk_frozen BK173.out 2
            go_wp2_with (first | ((with_reducible refine gate_callee (f := 14) rfl ?_); refine goesL_ (some 98) rfl rfl Try.func14 (by kernel_rfl) rfl #[.int .i64 a1, .int .i64 a2_0, .int .i64 a2_1, .int .i64 a2_2] rfl (by (try simp only [List.map_toArray, List.map_cons, List.map_nil]); first | done | rfl | (simp only [List.length_drop, List.length_take]; rfl)) ?_; (with_reducible refine (bucket_Bound.calls kj44 a1 a2_0 a2_1 a2_2 t188 t189 _ A118.out).mono ?_); rintro e w142 ⟨rfl, hb⟩; refine ⟨_, rfl, ?_⟩; have n0_ := Aside0.mk (blk_below (g := gb172) (o := .cells #[.int .i64 a0_0, .int .i64 a0_1] 23 (0, 0)) (by (with_reducible repeat (first | refine bdN ?_ _ | refine bd ?_ | refine ba ?_ _)); exact BK172.out) hb); have n1_ := Aside0.mk (blk_below (g := gb173) (o := .cells #[.int .i64 a2_0, .int .i64 a2_1, .int .i64 a2_2] 33 (0, 0)) (by (with_reducible repeat (first | refine bdN ?_ _ | refine bd ?_ | refine ba ?_ _)); exact BK173.out) hb); have n2_ := Aside0.mk (blk_below (g := gb178) (o := .cells #[.int .i64 t175, .int .i64 t176] 23 (0, 0)) (by (with_reducible repeat (first | refine bdN ?_ _ | refine bd ?_ | refine ba ?_ _)); exact BK178.out) hb); have n3_ := Aside0.mk (blk_below (g := gb182) (o := .cells #[.int .i64 t179, .int .i64 t180] 23 (0, 0)) (by (with_reducible repeat (first | refine bdN ?_ _ | refine bd ?_ | refine ba ?_ _)); exact BK182.out) hb); have n4_ := Aside0.mk (below_step (by repeat (first | (with_reducible first | exact HB.out | apply below_alloc | apply pw_below_drewN | apply below_drew1 | refine bs ?_ GE172.out | refine bs ?_ GE173.out | refine bs ?_ GE178.out | refine bs ?_ GE182.out) | exact HB.out)) hb); clear BK172; clear BK173; clear BK178; clear BK182; clear HB; have BK172 := n0_; have BK173 := n1_; have BK178 := n2_; have BK182 := n3_; have HB := n4_; clear n0_ n1_ n2_ n3_ n4_; (try clear hb); (try clear hb2); (try clear hk); (try clear hi)))
            go_ret
            exact ⟨by first | rfl | (simp [errW_none, errW_some] <;> rfl) | (simp [*, errW_none, errW_some] <;> rfl), by repeat (first | (with_reducible first | exact HB.out | apply below_alloc | apply pw_below_drewN | apply below_drew1 | refine bs ?_ GE172.out | refine bs ?_ GE173.out | refine bs ?_ GE178.out | refine bs ?_ GE182.out) | exact HB.out)⟩
          ·rw [if_neg c131] at H
           have c131b0 : decide (800 < a1) = false := decide_eq_false c131
           clear c131
           by_cases c143 : a2_0 < 0
           ·rw [if_pos c143] at H
            have c143b0 : decide (a2_0 < 0) = true := decide_eq_true c143
            clear c143
            by_cases c144 : t188 = 0
            ·rw [if_pos c144] at H
             have c144b0 : (t188 == 0) = true := beq_iff_eq.mpr c144
             have c144b1 : (t188 != 0) = false := bne_eq_false_iff_eq.mpr c144
             clear c144
             obtain rfl := Option.some.inj H
             have hnb145 := NB173_172.out
             have hnc145 := NB172_173.out
             have hnb146 := NB173_178.out
             have hnc146 := NB178_173.out
             have hnb147 := NB173_182.out
             have hnc147 := NB182_173.out
             have hcz148_0 : wc.cell? ⟨gb173, 0, none⟩ = some (.int .i64 a2_0) := (blk_cell BK173.out 0).trans rfl
             have hcz148_1 : wc.cell? ⟨gb173, 1, none⟩ = some (.int .i64 a2_1) := (blk_cell BK173.out 1).trans rfl
             have hcz148_2 : wc.cell? ⟨gb173, 2, none⟩ = some (.int .i64 a2_2) := (blk_cell BK173.out 2).trans rfl
             have hfz148_0 := blk_frozen BK173.out 0
             have hfz148_1 := blk_frozen BK173.out 1
             have hfz148_2 := blk_frozen BK173.out 2
             go_wp2_with (first | ((with_reducible refine gate_callee (f := 14) rfl ?_); refine goesL_ (some 98) rfl rfl Try.func14 (by kernel_rfl) rfl #[.int .i64 a1, .int .i64 a2_0, .int .i64 a2_1, .int .i64 a2_2] rfl (by (try simp only [List.map_toArray, List.map_cons, List.map_nil]); first | done | rfl | (simp only [List.length_drop, List.length_take]; rfl)) ?_; (with_reducible refine (bucket_Bound.calls kj44 a1 a2_0 a2_1 a2_2 t188 t189 _ A118.out).mono ?_); rintro e w149 ⟨rfl, hb⟩; refine ⟨_, rfl, ?_⟩; have n0_ := Aside0.mk (blk_below (g := gb172) (o := .cells #[.int .i64 a0_0, .int .i64 a0_1] 23 (0, 0)) (by (with_reducible repeat (first | refine bdN ?_ _ | refine bd ?_ | refine ba ?_ _)); exact BK172.out) hb); have n1_ := Aside0.mk (blk_below (g := gb173) (o := .cells #[.int .i64 a2_0, .int .i64 a2_1, .int .i64 a2_2] 33 (0, 0)) (by (with_reducible repeat (first | refine bdN ?_ _ | refine bd ?_ | refine ba ?_ _)); exact BK173.out) hb); have n2_ := Aside0.mk (blk_below (g := gb178) (o := .cells #[.int .i64 t175, .int .i64 t176] 23 (0, 0)) (by (with_reducible repeat (first | refine bdN ?_ _ | refine bd ?_ | refine ba ?_ _)); exact BK178.out) hb); have n3_ := Aside0.mk (blk_below (g := gb182) (o := .cells #[.int .i64 t179, .int .i64 t180] 23 (0, 0)) (by (with_reducible repeat (first | refine bdN ?_ _ | refine bd ?_ | refine ba ?_ _)); exact BK182.out) hb); have n4_ := Aside0.mk (below_step (by repeat (first | (with_reducible first | exact HB.out | apply below_alloc | apply pw_below_drewN | apply below_drew1 | refine bs ?_ GE172.out | refine bs ?_ GE173.out | refine bs ?_ GE178.out | refine bs ?_ GE182.out) | exact HB.out)) hb); clear BK172; clear BK173; clear BK178; clear BK182; clear HB; have BK172 := n0_; have BK173 := n1_; have BK178 := n2_; have BK182 := n3_; have HB := n4_; clear n0_ n1_ n2_ n3_ n4_; (try clear hb); (try clear hb2); (try clear hk); (try clear hi); have hcz150_0 : w149.cell? ⟨gb173, 0, none⟩ = some (.int .i64 a2_0) := (blk_cell BK173.out 0).trans rfl; have hcz150_1 : w149.cell? ⟨gb173, 1, none⟩ = some (.int .i64 a2_1) := (blk_cell BK173.out 1).trans rfl; have hcz150_2 : w149.cell? ⟨gb173, 2, none⟩ = some (.int .i64 a2_2) := (blk_cell BK173.out 2).trans rfl; have hfz150_0 := blk_frozen BK173.out 0; have hfz150_1 := blk_frozen BK173.out 1; have hfz150_2 := blk_frozen BK173.out 2))
             go_ret
             exact ⟨by first | rfl | (simp [errW_none, errW_some] <;> rfl) | (simp [*, errW_none, errW_some] <;> rfl), by repeat (first | (with_reducible first | exact HB.out | apply below_alloc | apply pw_below_drewN | apply below_drew1 | refine bs ?_ GE172.out | refine bs ?_ GE173.out | refine bs ?_ GE178.out | refine bs ?_ GE182.out) | exact HB.out)⟩
            ·rw [if_neg c144] at H
             have c144b0 : (t188 == 0) = false := beq_eq_false_iff_ne.mpr c144
             have c144b1 : (t188 != 0) = true := bne_iff_ne.mpr c144
             obtain rfl := Option.some.inj H
             have hnb151 := NB173_172.out
             have hnc151 := NB172_173.out
             have hnb152 := NB173_178.out
             have hnc152 := NB178_173.out
             have hnb153 := NB173_182.out
             have hnc153 := NB182_173.out
             have hcz154_0 : wc.cell? ⟨gb173, 0, none⟩ = some (.int .i64 a2_0) := (blk_cell BK173.out 0).trans rfl
             have hcz154_1 : wc.cell? ⟨gb173, 1, none⟩ = some (.int .i64 a2_1) := (blk_cell BK173.out 1).trans rfl
             have hcz154_2 : wc.cell? ⟨gb173, 2, none⟩ = some (.int .i64 a2_2) := (blk_cell BK173.out 2).trans rfl
             have hfz154_0 := blk_frozen BK173.out 0
             have hfz154_1 := blk_frozen BK173.out 1
             have hfz154_2 := blk_frozen BK173.out 2
             go_wp2_with (first | ((with_reducible refine gate_callee (f := 14) rfl ?_); refine goesL_ (some 98) rfl rfl Try.func14 (by kernel_rfl) rfl #[.int .i64 a1, .int .i64 a2_0, .int .i64 a2_1, .int .i64 a2_2] rfl (by (try simp only [List.map_toArray, List.map_cons, List.map_nil]); first | done | rfl | (simp only [List.length_drop, List.length_take]; rfl)) ?_; (with_reducible refine (bucket_Bound.calls kj44 a1 a2_0 a2_1 a2_2 t188 t189 _ A118.out).mono ?_); rintro e w155 ⟨rfl, hb⟩; refine ⟨_, rfl, ?_⟩; have n0_ := Aside0.mk (blk_below (g := gb172) (o := .cells #[.int .i64 a0_0, .int .i64 a0_1] 23 (0, 0)) (by (with_reducible repeat (first | refine bdN ?_ _ | refine bd ?_ | refine ba ?_ _)); exact BK172.out) hb); have n1_ := Aside0.mk (blk_below (g := gb173) (o := .cells #[.int .i64 a2_0, .int .i64 a2_1, .int .i64 a2_2] 33 (0, 0)) (by (with_reducible repeat (first | refine bdN ?_ _ | refine bd ?_ | refine ba ?_ _)); exact BK173.out) hb); have n2_ := Aside0.mk (blk_below (g := gb178) (o := .cells #[.int .i64 t175, .int .i64 t176] 23 (0, 0)) (by (with_reducible repeat (first | refine bdN ?_ _ | refine bd ?_ | refine ba ?_ _)); exact BK178.out) hb); have n3_ := Aside0.mk (blk_below (g := gb182) (o := .cells #[.int .i64 t179, .int .i64 t180] 23 (0, 0)) (by (with_reducible repeat (first | refine bdN ?_ _ | refine bd ?_ | refine ba ?_ _)); exact BK182.out) hb); have n4_ := Aside0.mk (below_step (by repeat (first | (with_reducible first | exact HB.out | apply below_alloc | apply pw_below_drewN | apply below_drew1 | refine bs ?_ GE172.out | refine bs ?_ GE173.out | refine bs ?_ GE178.out | refine bs ?_ GE182.out) | exact HB.out)) hb); clear BK172; clear BK173; clear BK178; clear BK182; clear HB; have BK172 := n0_; have BK173 := n1_; have BK178 := n2_; have BK182 := n3_; have HB := n4_; clear n0_ n1_ n2_ n3_ n4_; (try clear hb); (try clear hb2); (try clear hk); (try clear hi); have hcz156_0 : w155.cell? ⟨gb173, 0, none⟩ = some (.int .i64 a2_0) := (blk_cell BK173.out 0).trans rfl; have hcz156_1 : w155.cell? ⟨gb173, 1, none⟩ = some (.int .i64 a2_1) := (blk_cell BK173.out 1).trans rfl; have hcz156_2 : w155.cell? ⟨gb173, 2, none⟩ = some (.int .i64 a2_2) := (blk_cell BK173.out 2).trans rfl; have hfz156_0 := blk_frozen BK173.out 0; have hfz156_1 := blk_frozen BK173.out 1; have hfz156_2 := blk_frozen BK173.out 2))
             go_ret
             exact ⟨by first | rfl | (simp [errW_none, errW_some] <;> rfl) | (simp [*, errW_none, errW_some] <;> rfl), by repeat (first | (with_reducible first | exact HB.out | apply below_alloc | apply pw_below_drewN | apply below_drew1 | refine bs ?_ GE172.out | refine bs ?_ GE173.out | refine bs ?_ GE178.out | refine bs ?_ GE182.out) | exact HB.out)⟩
           ·rw [if_neg c143] at H
            have c143b0 : decide (a2_0 < 0) = false := decide_eq_false c143
            clear c143
            by_cases c157 : a2_0 > 1125899906842624
            ·rw [if_pos c157] at H
             have c157b0 : decide (1125899906842624 < a2_0) = true := decide_eq_true c157
             clear c157
             by_cases c158 : t188 = 0
             ·rw [if_pos c158] at H
              have c158b0 : (t188 == 0) = true := beq_iff_eq.mpr c158
              have c158b1 : (t188 != 0) = false := bne_eq_false_iff_eq.mpr c158
              clear c158
              obtain rfl := Option.some.inj H
              have hnb159 := NB173_172.out
              have hnc159 := NB172_173.out
              have hnb160 := NB173_178.out
              have hnc160 := NB178_173.out
              have hnb161 := NB173_182.out
              have hnc161 := NB182_173.out
              have hcz162_0 : wc.cell? ⟨gb173, 0, none⟩ = some (.int .i64 a2_0) := (blk_cell BK173.out 0).trans rfl
              have hcz162_1 : wc.cell? ⟨gb173, 1, none⟩ = some (.int .i64 a2_1) := (blk_cell BK173.out 1).trans rfl
              have hcz162_2 : wc.cell? ⟨gb173, 2, none⟩ = some (.int .i64 a2_2) := (blk_cell BK173.out 2).trans rfl
              have hfz162_0 := blk_frozen BK173.out 0
              have hfz162_1 := blk_frozen BK173.out 1
              have hfz162_2 := blk_frozen BK173.out 2
              go_wp2_with (first | ((with_reducible refine gate_callee (f := 14) rfl ?_); refine goesL_ (some 98) rfl rfl Try.func14 (by kernel_rfl) rfl #[.int .i64 a1, .int .i64 a2_0, .int .i64 a2_1, .int .i64 a2_2] rfl (by (try simp only [List.map_toArray, List.map_cons, List.map_nil]); first | done | rfl | (simp only [List.length_drop, List.length_take]; rfl)) ?_; (with_reducible refine (bucket_Bound.calls kj44 a1 a2_0 a2_1 a2_2 t188 t189 _ A118.out).mono ?_); rintro e w163 ⟨rfl, hb⟩; refine ⟨_, rfl, ?_⟩; have n0_ := Aside0.mk (blk_below (g := gb172) (o := .cells #[.int .i64 a0_0, .int .i64 a0_1] 23 (0, 0)) (by (with_reducible repeat (first | refine bdN ?_ _ | refine bd ?_ | refine ba ?_ _)); exact BK172.out) hb); have n1_ := Aside0.mk (blk_below (g := gb173) (o := .cells #[.int .i64 a2_0, .int .i64 a2_1, .int .i64 a2_2] 33 (0, 0)) (by (with_reducible repeat (first | refine bdN ?_ _ | refine bd ?_ | refine ba ?_ _)); exact BK173.out) hb); have n2_ := Aside0.mk (blk_below (g := gb178) (o := .cells #[.int .i64 t175, .int .i64 t176] 23 (0, 0)) (by (with_reducible repeat (first | refine bdN ?_ _ | refine bd ?_ | refine ba ?_ _)); exact BK178.out) hb); have n3_ := Aside0.mk (blk_below (g := gb182) (o := .cells #[.int .i64 t179, .int .i64 t180] 23 (0, 0)) (by (with_reducible repeat (first | refine bdN ?_ _ | refine bd ?_ | refine ba ?_ _)); exact BK182.out) hb); have n4_ := Aside0.mk (below_step (by repeat (first | (with_reducible first | exact HB.out | apply below_alloc | apply pw_below_drewN | apply below_drew1 | refine bs ?_ GE172.out | refine bs ?_ GE173.out | refine bs ?_ GE178.out | refine bs ?_ GE182.out) | exact HB.out)) hb); clear BK172; clear BK173; clear BK178; clear BK182; clear HB; have BK172 := n0_; have BK173 := n1_; have BK178 := n2_; have BK182 := n3_; have HB := n4_; clear n0_ n1_ n2_ n3_ n4_; (try clear hb); (try clear hb2); (try clear hk); (try clear hi); have hcz164_0 : w163.cell? ⟨gb173, 0, none⟩ = some (.int .i64 a2_0) := (blk_cell BK173.out 0).trans rfl; have hcz164_1 : w163.cell? ⟨gb173, 1, none⟩ = some (.int .i64 a2_1) := (blk_cell BK173.out 1).trans rfl; have hcz164_2 : w163.cell? ⟨gb173, 2, none⟩ = some (.int .i64 a2_2) := (blk_cell BK173.out 2).trans rfl; have hfz164_0 := blk_frozen BK173.out 0; have hfz164_1 := blk_frozen BK173.out 1; have hfz164_2 := blk_frozen BK173.out 2))
              go_ret
              exact ⟨by first | rfl | (simp [errW_none, errW_some] <;> rfl) | (simp [*, errW_none, errW_some] <;> rfl), by repeat (first | (with_reducible first | exact HB.out | apply below_alloc | apply pw_below_drewN | apply below_drew1 | refine bs ?_ GE172.out | refine bs ?_ GE173.out | refine bs ?_ GE178.out | refine bs ?_ GE182.out) | exact HB.out)⟩
             ·rw [if_neg c158] at H
              have c158b0 : (t188 == 0) = false := beq_eq_false_iff_ne.mpr c158
              have c158b1 : (t188 != 0) = true := bne_iff_ne.mpr c158
              obtain rfl := Option.some.inj H
              have hnb165 := NB173_172.out
              have hnc165 := NB172_173.out
              have hnb166 := NB173_178.out
              have hnc166 := NB178_173.out
              have hnb167 := NB173_182.out
              have hnc167 := NB182_173.out
              have hcz168_0 : wc.cell? ⟨gb173, 0, none⟩ = some (.int .i64 a2_0) := (blk_cell BK173.out 0).trans rfl
              have hcz168_1 : wc.cell? ⟨gb173, 1, none⟩ = some (.int .i64 a2_1) := (blk_cell BK173.out 1).trans rfl
              have hcz168_2 : wc.cell? ⟨gb173, 2, none⟩ = some (.int .i64 a2_2) := (blk_cell BK173.out 2).trans rfl
              have hfz168_0 := blk_frozen BK173.out 0
              have hfz168_1 := blk_frozen BK173.out 1
              have hfz168_2 := blk_frozen BK173.out 2
              go_wp2_with (first | ((with_reducible refine gate_callee (f := 14) rfl ?_); refine goesL_ (some 98) rfl rfl Try.func14 (by kernel_rfl) rfl #[.int .i64 a1, .int .i64 a2_0, .int .i64 a2_1, .int .i64 a2_2] rfl (by (try simp only [List.map_toArray, List.map_cons, List.map_nil]); first | done | rfl | (simp only [List.length_drop, List.length_take]; rfl)) ?_; (with_reducible refine (bucket_Bound.calls kj44 a1 a2_0 a2_1 a2_2 t188 t189 _ A118.out).mono ?_); rintro e w169 ⟨rfl, hb⟩; refine ⟨_, rfl, ?_⟩; have n0_ := Aside0.mk (blk_below (g := gb172) (o := .cells #[.int .i64 a0_0, .int .i64 a0_1] 23 (0, 0)) (by (with_reducible repeat (first | refine bdN ?_ _ | refine bd ?_ | refine ba ?_ _)); exact BK172.out) hb); have n1_ := Aside0.mk (blk_below (g := gb173) (o := .cells #[.int .i64 a2_0, .int .i64 a2_1, .int .i64 a2_2] 33 (0, 0)) (by (with_reducible repeat (first | refine bdN ?_ _ | refine bd ?_ | refine ba ?_ _)); exact BK173.out) hb); have n2_ := Aside0.mk (blk_below (g := gb178) (o := .cells #[.int .i64 t175, .int .i64 t176] 23 (0, 0)) (by (with_reducible repeat (first | refine bdN ?_ _ | refine bd ?_ | refine ba ?_ _)); exact BK178.out) hb); have n3_ := Aside0.mk (blk_below (g := gb182) (o := .cells #[.int .i64 t179, .int .i64 t180] 23 (0, 0)) (by (with_reducible repeat (first | refine bdN ?_ _ | refine bd ?_ | refine ba ?_ _)); exact BK182.out) hb); have n4_ := Aside0.mk (below_step (by repeat (first | (with_reducible first | exact HB.out | apply below_alloc | apply pw_below_drewN | apply below_drew1 | refine bs ?_ GE172.out | refine bs ?_ GE173.out | refine bs ?_ GE178.out | refine bs ?_ GE182.out) | exact HB.out)) hb); clear BK172; clear BK173; clear BK178; clear BK182; clear HB; have BK172 := n0_; have BK173 := n1_; have BK178 := n2_; have BK182 := n3_; have HB := n4_; clear n0_ n1_ n2_ n3_ n4_; (try clear hb); (try clear hb2); (try clear hk); (try clear hi); have hcz170_0 : w169.cell? ⟨gb173, 0, none⟩ = some (.int .i64 a2_0) := (blk_cell BK173.out 0).trans rfl; have hcz170_1 : w169.cell? ⟨gb173, 1, none⟩ = some (.int .i64 a2_1) := (blk_cell BK173.out 1).trans rfl; have hcz170_2 : w169.cell? ⟨gb173, 2, none⟩ = some (.int .i64 a2_2) := (blk_cell BK173.out 2).trans rfl; have hfz170_0 := blk_frozen BK173.out 0; have hfz170_1 := blk_frozen BK173.out 1; have hfz170_2 := blk_frozen BK173.out 2))
              go_ret
              exact ⟨by first | rfl | (simp [errW_none, errW_some] <;> rfl) | (simp [*, errW_none, errW_some] <;> rfl), by repeat (first | (with_reducible first | exact HB.out | apply below_alloc | apply pw_below_drewN | apply below_drew1 | refine bs ?_ GE172.out | refine bs ?_ GE173.out | refine bs ?_ GE178.out | refine bs ?_ GE182.out) | exact HB.out)⟩
            ·rw [if_neg c157] at H
             have c157b0 : decide (1125899906842624 < a2_0) = false := decide_eq_false c157
             clear c157
             by_cases c171 : a2_1 < 0
             ·rw [if_pos c171] at H
              have c171b0 : decide (a2_1 < 0) = true := decide_eq_true c171
              clear c171
              by_cases c172 : t188 = 0
              ·rw [if_pos c172] at H
               have c172b0 : (t188 == 0) = true := beq_iff_eq.mpr c172
               have c172b1 : (t188 != 0) = false := bne_eq_false_iff_eq.mpr c172
               clear c172
               obtain rfl := Option.some.inj H
               have hnb173 := NB173_172.out
               have hnc173 := NB172_173.out
               have hnb174 := NB173_178.out
               have hnc174 := NB178_173.out
               have hnb175 := NB173_182.out
               have hnc175 := NB182_173.out
               have hcz176_0 : wc.cell? ⟨gb173, 0, none⟩ = some (.int .i64 a2_0) := (blk_cell BK173.out 0).trans rfl
               have hcz176_1 : wc.cell? ⟨gb173, 1, none⟩ = some (.int .i64 a2_1) := (blk_cell BK173.out 1).trans rfl
               have hcz176_2 : wc.cell? ⟨gb173, 2, none⟩ = some (.int .i64 a2_2) := (blk_cell BK173.out 2).trans rfl
               have hfz176_0 := blk_frozen BK173.out 0
               have hfz176_1 := blk_frozen BK173.out 1
               have hfz176_2 := blk_frozen BK173.out 2
               go_wp2_with (first | ((with_reducible refine gate_callee (f := 14) rfl ?_); refine goesL_ (some 98) rfl rfl Try.func14 (by kernel_rfl) rfl #[.int .i64 a1, .int .i64 a2_0, .int .i64 a2_1, .int .i64 a2_2] rfl (by (try simp only [List.map_toArray, List.map_cons, List.map_nil]); first | done | rfl | (simp only [List.length_drop, List.length_take]; rfl)) ?_; (with_reducible refine (bucket_Bound.calls kj44 a1 a2_0 a2_1 a2_2 t188 t189 _ A118.out).mono ?_); rintro e w177 ⟨rfl, hb⟩; refine ⟨_, rfl, ?_⟩; have n0_ := Aside0.mk (blk_below (g := gb172) (o := .cells #[.int .i64 a0_0, .int .i64 a0_1] 23 (0, 0)) (by (with_reducible repeat (first | refine bdN ?_ _ | refine bd ?_ | refine ba ?_ _)); exact BK172.out) hb); have n1_ := Aside0.mk (blk_below (g := gb173) (o := .cells #[.int .i64 a2_0, .int .i64 a2_1, .int .i64 a2_2] 33 (0, 0)) (by (with_reducible repeat (first | refine bdN ?_ _ | refine bd ?_ | refine ba ?_ _)); exact BK173.out) hb); have n2_ := Aside0.mk (blk_below (g := gb178) (o := .cells #[.int .i64 t175, .int .i64 t176] 23 (0, 0)) (by (with_reducible repeat (first | refine bdN ?_ _ | refine bd ?_ | refine ba ?_ _)); exact BK178.out) hb); have n3_ := Aside0.mk (blk_below (g := gb182) (o := .cells #[.int .i64 t179, .int .i64 t180] 23 (0, 0)) (by (with_reducible repeat (first | refine bdN ?_ _ | refine bd ?_ | refine ba ?_ _)); exact BK182.out) hb); have n4_ := Aside0.mk (below_step (by repeat (first | (with_reducible first | exact HB.out | apply below_alloc | apply pw_below_drewN | apply below_drew1 | refine bs ?_ GE172.out | refine bs ?_ GE173.out | refine bs ?_ GE178.out | refine bs ?_ GE182.out) | exact HB.out)) hb); clear BK172; clear BK173; clear BK178; clear BK182; clear HB; have BK172 := n0_; have BK173 := n1_; have BK178 := n2_; have BK182 := n3_; have HB := n4_; clear n0_ n1_ n2_ n3_ n4_; (try clear hb); (try clear hb2); (try clear hk); (try clear hi); have hcz178_0 : w177.cell? ⟨gb173, 0, none⟩ = some (.int .i64 a2_0) := (blk_cell BK173.out 0).trans rfl; have hcz178_1 : w177.cell? ⟨gb173, 1, none⟩ = some (.int .i64 a2_1) := (blk_cell BK173.out 1).trans rfl; have hcz178_2 : w177.cell? ⟨gb173, 2, none⟩ = some (.int .i64 a2_2) := (blk_cell BK173.out 2).trans rfl; have hfz178_0 := blk_frozen BK173.out 0; have hfz178_1 := blk_frozen BK173.out 1; have hfz178_2 := blk_frozen BK173.out 2))
               go_ret
               exact ⟨by first | rfl | (simp [errW_none, errW_some] <;> rfl) | (simp [*, errW_none, errW_some] <;> rfl), by repeat (first | (with_reducible first | exact HB.out | apply below_alloc | apply pw_below_drewN | apply below_drew1 | refine bs ?_ GE172.out | refine bs ?_ GE173.out | refine bs ?_ GE178.out | refine bs ?_ GE182.out) | exact HB.out)⟩
              ·rw [if_neg c172] at H
               have c172b0 : (t188 == 0) = false := beq_eq_false_iff_ne.mpr c172
               have c172b1 : (t188 != 0) = true := bne_iff_ne.mpr c172
               obtain rfl := Option.some.inj H
               have hnb179 := NB173_172.out
               have hnc179 := NB172_173.out
               have hnb180 := NB173_178.out
               have hnc180 := NB178_173.out
               have hnb181 := NB173_182.out
               have hnc181 := NB182_173.out
               have hcz182_0 : wc.cell? ⟨gb173, 0, none⟩ = some (.int .i64 a2_0) := (blk_cell BK173.out 0).trans rfl
               have hcz182_1 : wc.cell? ⟨gb173, 1, none⟩ = some (.int .i64 a2_1) := (blk_cell BK173.out 1).trans rfl
               have hcz182_2 : wc.cell? ⟨gb173, 2, none⟩ = some (.int .i64 a2_2) := (blk_cell BK173.out 2).trans rfl
               have hfz182_0 := blk_frozen BK173.out 0
               have hfz182_1 := blk_frozen BK173.out 1
               have hfz182_2 := blk_frozen BK173.out 2
               go_wp2_with (first | ((with_reducible refine gate_callee (f := 14) rfl ?_); refine goesL_ (some 98) rfl rfl Try.func14 (by kernel_rfl) rfl #[.int .i64 a1, .int .i64 a2_0, .int .i64 a2_1, .int .i64 a2_2] rfl (by (try simp only [List.map_toArray, List.map_cons, List.map_nil]); first | done | rfl | (simp only [List.length_drop, List.length_take]; rfl)) ?_; (with_reducible refine (bucket_Bound.calls kj44 a1 a2_0 a2_1 a2_2 t188 t189 _ A118.out).mono ?_); rintro e w183 ⟨rfl, hb⟩; refine ⟨_, rfl, ?_⟩; have n0_ := Aside0.mk (blk_below (g := gb172) (o := .cells #[.int .i64 a0_0, .int .i64 a0_1] 23 (0, 0)) (by (with_reducible repeat (first | refine bdN ?_ _ | refine bd ?_ | refine ba ?_ _)); exact BK172.out) hb); have n1_ := Aside0.mk (blk_below (g := gb173) (o := .cells #[.int .i64 a2_0, .int .i64 a2_1, .int .i64 a2_2] 33 (0, 0)) (by (with_reducible repeat (first | refine bdN ?_ _ | refine bd ?_ | refine ba ?_ _)); exact BK173.out) hb); have n2_ := Aside0.mk (blk_below (g := gb178) (o := .cells #[.int .i64 t175, .int .i64 t176] 23 (0, 0)) (by (with_reducible repeat (first | refine bdN ?_ _ | refine bd ?_ | refine ba ?_ _)); exact BK178.out) hb); have n3_ := Aside0.mk (blk_below (g := gb182) (o := .cells #[.int .i64 t179, .int .i64 t180] 23 (0, 0)) (by (with_reducible repeat (first | refine bdN ?_ _ | refine bd ?_ | refine ba ?_ _)); exact BK182.out) hb); have n4_ := Aside0.mk (below_step (by repeat (first | (with_reducible first | exact HB.out | apply below_alloc | apply pw_below_drewN | apply below_drew1 | refine bs ?_ GE172.out | refine bs ?_ GE173.out | refine bs ?_ GE178.out | refine bs ?_ GE182.out) | exact HB.out)) hb); clear BK172; clear BK173; clear BK178; clear BK182; clear HB; have BK172 := n0_; have BK173 := n1_; have BK178 := n2_; have BK182 := n3_; have HB := n4_; clear n0_ n1_ n2_ n3_ n4_; (try clear hb); (try clear hb2); (try clear hk); (try clear hi); have hcz184_0 : w183.cell? ⟨gb173, 0, none⟩ = some (.int .i64 a2_0) := (blk_cell BK173.out 0).trans rfl; have hcz184_1 : w183.cell? ⟨gb173, 1, none⟩ = some (.int .i64 a2_1) := (blk_cell BK173.out 1).trans rfl; have hcz184_2 : w183.cell? ⟨gb173, 2, none⟩ = some (.int .i64 a2_2) := (blk_cell BK173.out 2).trans rfl; have hfz184_0 := blk_frozen BK173.out 0; have hfz184_1 := blk_frozen BK173.out 1; have hfz184_2 := blk_frozen BK173.out 2))
               go_ret
               exact ⟨by first | rfl | (simp [errW_none, errW_some] <;> rfl) | (simp [*, errW_none, errW_some] <;> rfl), by repeat (first | (with_reducible first | exact HB.out | apply below_alloc | apply pw_below_drewN | apply below_drew1 | refine bs ?_ GE172.out | refine bs ?_ GE173.out | refine bs ?_ GE178.out | refine bs ?_ GE182.out) | exact HB.out)⟩
             ·rw [if_neg c171] at H
              have c171b0 : decide (a2_1 < 0) = false := decide_eq_false c171
              clear c171
              by_cases c185 : a2_1 > 10000000
              ·rw [if_pos c185] at H
               have c185b0 : decide (10000000 < a2_1) = true := decide_eq_true c185
               clear c185
               by_cases c186 : t188 = 0
               ·rw [if_pos c186] at H
                have c186b0 : (t188 == 0) = true := beq_iff_eq.mpr c186
                have c186b1 : (t188 != 0) = false := bne_eq_false_iff_eq.mpr c186
                clear c186
                obtain rfl := Option.some.inj H
                have hnb187 := NB173_172.out
                have hnc187 := NB172_173.out
                have hnb188 := NB173_178.out
                have hnc188 := NB178_173.out
                have hnb189 := NB173_182.out
                have hnc189 := NB182_173.out
                have hcz190_0 : wc.cell? ⟨gb173, 0, none⟩ = some (.int .i64 a2_0) := (blk_cell BK173.out 0).trans rfl
                have hcz190_1 : wc.cell? ⟨gb173, 1, none⟩ = some (.int .i64 a2_1) := (blk_cell BK173.out 1).trans rfl
                have hcz190_2 : wc.cell? ⟨gb173, 2, none⟩ = some (.int .i64 a2_2) := (blk_cell BK173.out 2).trans rfl
                have hfz190_0 := blk_frozen BK173.out 0
                have hfz190_1 := blk_frozen BK173.out 1
                have hfz190_2 := blk_frozen BK173.out 2
                go_wp2_with (first | ((with_reducible refine gate_callee (f := 14) rfl ?_); refine goesL_ (some 98) rfl rfl Try.func14 (by kernel_rfl) rfl #[.int .i64 a1, .int .i64 a2_0, .int .i64 a2_1, .int .i64 a2_2] rfl (by (try simp only [List.map_toArray, List.map_cons, List.map_nil]); first | done | rfl | (simp only [List.length_drop, List.length_take]; rfl)) ?_; (with_reducible refine (bucket_Bound.calls kj44 a1 a2_0 a2_1 a2_2 t188 t189 _ A118.out).mono ?_); rintro e w191 ⟨rfl, hb⟩; refine ⟨_, rfl, ?_⟩; have n0_ := Aside0.mk (blk_below (g := gb172) (o := .cells #[.int .i64 a0_0, .int .i64 a0_1] 23 (0, 0)) (by (with_reducible repeat (first | refine bdN ?_ _ | refine bd ?_ | refine ba ?_ _)); exact BK172.out) hb); have n1_ := Aside0.mk (blk_below (g := gb173) (o := .cells #[.int .i64 a2_0, .int .i64 a2_1, .int .i64 a2_2] 33 (0, 0)) (by (with_reducible repeat (first | refine bdN ?_ _ | refine bd ?_ | refine ba ?_ _)); exact BK173.out) hb); have n2_ := Aside0.mk (blk_below (g := gb178) (o := .cells #[.int .i64 t175, .int .i64 t176] 23 (0, 0)) (by (with_reducible repeat (first | refine bdN ?_ _ | refine bd ?_ | refine ba ?_ _)); exact BK178.out) hb); have n3_ := Aside0.mk (blk_below (g := gb182) (o := .cells #[.int .i64 t179, .int .i64 t180] 23 (0, 0)) (by (with_reducible repeat (first | refine bdN ?_ _ | refine bd ?_ | refine ba ?_ _)); exact BK182.out) hb); have n4_ := Aside0.mk (below_step (by repeat (first | (with_reducible first | exact HB.out | apply below_alloc | apply pw_below_drewN | apply below_drew1 | refine bs ?_ GE172.out | refine bs ?_ GE173.out | refine bs ?_ GE178.out | refine bs ?_ GE182.out) | exact HB.out)) hb); clear BK172; clear BK173; clear BK178; clear BK182; clear HB; have BK172 := n0_; have BK173 := n1_; have BK178 := n2_; have BK182 := n3_; have HB := n4_; clear n0_ n1_ n2_ n3_ n4_; (try clear hb); (try clear hb2); (try clear hk); (try clear hi); have hcz192_0 : w191.cell? ⟨gb173, 0, none⟩ = some (.int .i64 a2_0) := (blk_cell BK173.out 0).trans rfl; have hcz192_1 : w191.cell? ⟨gb173, 1, none⟩ = some (.int .i64 a2_1) := (blk_cell BK173.out 1).trans rfl; have hcz192_2 : w191.cell? ⟨gb173, 2, none⟩ = some (.int .i64 a2_2) := (blk_cell BK173.out 2).trans rfl; have hfz192_0 := blk_frozen BK173.out 0; have hfz192_1 := blk_frozen BK173.out 1; have hfz192_2 := blk_frozen BK173.out 2))
                go_ret
                exact ⟨by first | rfl | (simp [errW_none, errW_some] <;> rfl) | (simp [*, errW_none, errW_some] <;> rfl), by repeat (first | (with_reducible first | exact HB.out | apply below_alloc | apply pw_below_drewN | apply below_drew1 | refine bs ?_ GE172.out | refine bs ?_ GE173.out | refine bs ?_ GE178.out | refine bs ?_ GE182.out) | exact HB.out)⟩
               ·rw [if_neg c186] at H
                have c186b0 : (t188 == 0) = false := beq_eq_false_iff_ne.mpr c186
                have c186b1 : (t188 != 0) = true := bne_iff_ne.mpr c186
                obtain rfl := Option.some.inj H
                have hnb193 := NB173_172.out
                have hnc193 := NB172_173.out
                have hnb194 := NB173_178.out
                have hnc194 := NB178_173.out
                have hnb195 := NB173_182.out
                have hnc195 := NB182_173.out
                have hcz196_0 : wc.cell? ⟨gb173, 0, none⟩ = some (.int .i64 a2_0) := (blk_cell BK173.out 0).trans rfl
                have hcz196_1 : wc.cell? ⟨gb173, 1, none⟩ = some (.int .i64 a2_1) := (blk_cell BK173.out 1).trans rfl
                have hcz196_2 : wc.cell? ⟨gb173, 2, none⟩ = some (.int .i64 a2_2) := (blk_cell BK173.out 2).trans rfl
                have hfz196_0 := blk_frozen BK173.out 0
                have hfz196_1 := blk_frozen BK173.out 1
                have hfz196_2 := blk_frozen BK173.out 2
                go_wp2_with (first | ((with_reducible refine gate_callee (f := 14) rfl ?_); refine goesL_ (some 98) rfl rfl Try.func14 (by kernel_rfl) rfl #[.int .i64 a1, .int .i64 a2_0, .int .i64 a2_1, .int .i64 a2_2] rfl (by (try simp only [List.map_toArray, List.map_cons, List.map_nil]); first | done | rfl | (simp only [List.length_drop, List.length_take]; rfl)) ?_; (with_reducible refine (bucket_Bound.calls kj44 a1 a2_0 a2_1 a2_2 t188 t189 _ A118.out).mono ?_); rintro e w197 ⟨rfl, hb⟩; refine ⟨_, rfl, ?_⟩; have n0_ := Aside0.mk (blk_below (g := gb172) (o := .cells #[.int .i64 a0_0, .int .i64 a0_1] 23 (0, 0)) (by (with_reducible repeat (first | refine bdN ?_ _ | refine bd ?_ | refine ba ?_ _)); exact BK172.out) hb); have n1_ := Aside0.mk (blk_below (g := gb173) (o := .cells #[.int .i64 a2_0, .int .i64 a2_1, .int .i64 a2_2] 33 (0, 0)) (by (with_reducible repeat (first | refine bdN ?_ _ | refine bd ?_ | refine ba ?_ _)); exact BK173.out) hb); have n2_ := Aside0.mk (blk_below (g := gb178) (o := .cells #[.int .i64 t175, .int .i64 t176] 23 (0, 0)) (by (with_reducible repeat (first | refine bdN ?_ _ | refine bd ?_ | refine ba ?_ _)); exact BK178.out) hb); have n3_ := Aside0.mk (blk_below (g := gb182) (o := .cells #[.int .i64 t179, .int .i64 t180] 23 (0, 0)) (by (with_reducible repeat (first | refine bdN ?_ _ | refine bd ?_ | refine ba ?_ _)); exact BK182.out) hb); have n4_ := Aside0.mk (below_step (by repeat (first | (with_reducible first | exact HB.out | apply below_alloc | apply pw_below_drewN | apply below_drew1 | refine bs ?_ GE172.out | refine bs ?_ GE173.out | refine bs ?_ GE178.out | refine bs ?_ GE182.out) | exact HB.out)) hb); clear BK172; clear BK173; clear BK178; clear BK182; clear HB; have BK172 := n0_; have BK173 := n1_; have BK178 := n2_; have BK182 := n3_; have HB := n4_; clear n0_ n1_ n2_ n3_ n4_; (try clear hb); (try clear hb2); (try clear hk); (try clear hi); have hcz198_0 : w197.cell? ⟨gb173, 0, none⟩ = some (.int .i64 a2_0) := (blk_cell BK173.out 0).trans rfl; have hcz198_1 : w197.cell? ⟨gb173, 1, none⟩ = some (.int .i64 a2_1) := (blk_cell BK173.out 1).trans rfl; have hcz198_2 : w197.cell? ⟨gb173, 2, none⟩ = some (.int .i64 a2_2) := (blk_cell BK173.out 2).trans rfl; have hfz198_0 := blk_frozen BK173.out 0; have hfz198_1 := blk_frozen BK173.out 1; have hfz198_2 := blk_frozen BK173.out 2))
                go_ret
                exact ⟨by first | rfl | (simp [errW_none, errW_some] <;> rfl) | (simp [*, errW_none, errW_some] <;> rfl), by repeat (first | (with_reducible first | exact HB.out | apply below_alloc | apply pw_below_drewN | apply below_drew1 | refine bs ?_ GE172.out | refine bs ?_ GE173.out | refine bs ?_ GE178.out | refine bs ?_ GE182.out) | exact HB.out)⟩
              ·rw [if_neg c185] at H
               have c185b0 : decide (10000000 < a2_1) = false := decide_eq_false c185
               clear c185
               by_cases c199 : a2_2 < 0
               ·rw [if_pos c199] at H
                have c199b0 : decide (a2_2 < 0) = true := decide_eq_true c199
                clear c199
                by_cases c200 : t188 = 0
                ·rw [if_pos c200] at H
                 have c200b0 : (t188 == 0) = true := beq_iff_eq.mpr c200
                 have c200b1 : (t188 != 0) = false := bne_eq_false_iff_eq.mpr c200
                 clear c200
                 obtain rfl := Option.some.inj H
                 have hnb201 := NB173_172.out
                 have hnc201 := NB172_173.out
                 have hnb202 := NB173_178.out
                 have hnc202 := NB178_173.out
                 have hnb203 := NB173_182.out
                 have hnc203 := NB182_173.out
                 have hcz204_0 : wc.cell? ⟨gb173, 0, none⟩ = some (.int .i64 a2_0) := (blk_cell BK173.out 0).trans rfl
                 have hcz204_1 : wc.cell? ⟨gb173, 1, none⟩ = some (.int .i64 a2_1) := (blk_cell BK173.out 1).trans rfl
                 have hcz204_2 : wc.cell? ⟨gb173, 2, none⟩ = some (.int .i64 a2_2) := (blk_cell BK173.out 2).trans rfl
                 have hfz204_0 := blk_frozen BK173.out 0
                 have hfz204_1 := blk_frozen BK173.out 1
                 have hfz204_2 := blk_frozen BK173.out 2
                 go_wp2_with (first | ((with_reducible refine gate_callee (f := 14) rfl ?_); refine goesL_ (some 98) rfl rfl Try.func14 (by kernel_rfl) rfl #[.int .i64 a1, .int .i64 a2_0, .int .i64 a2_1, .int .i64 a2_2] rfl (by (try simp only [List.map_toArray, List.map_cons, List.map_nil]); first | done | rfl | (simp only [List.length_drop, List.length_take]; rfl)) ?_; (with_reducible refine (bucket_Bound.calls kj44 a1 a2_0 a2_1 a2_2 t188 t189 _ A118.out).mono ?_); rintro e w205 ⟨rfl, hb⟩; refine ⟨_, rfl, ?_⟩; have n0_ := Aside0.mk (blk_below (g := gb172) (o := .cells #[.int .i64 a0_0, .int .i64 a0_1] 23 (0, 0)) (by (with_reducible repeat (first | refine bdN ?_ _ | refine bd ?_ | refine ba ?_ _)); exact BK172.out) hb); have n1_ := Aside0.mk (blk_below (g := gb173) (o := .cells #[.int .i64 a2_0, .int .i64 a2_1, .int .i64 a2_2] 33 (0, 0)) (by (with_reducible repeat (first | refine bdN ?_ _ | refine bd ?_ | refine ba ?_ _)); exact BK173.out) hb); have n2_ := Aside0.mk (blk_below (g := gb178) (o := .cells #[.int .i64 t175, .int .i64 t176] 23 (0, 0)) (by (with_reducible repeat (first | refine bdN ?_ _ | refine bd ?_ | refine ba ?_ _)); exact BK178.out) hb); have n3_ := Aside0.mk (blk_below (g := gb182) (o := .cells #[.int .i64 t179, .int .i64 t180] 23 (0, 0)) (by (with_reducible repeat (first | refine bdN ?_ _ | refine bd ?_ | refine ba ?_ _)); exact BK182.out) hb); have n4_ := Aside0.mk (below_step (by repeat (first | (with_reducible first | exact HB.out | apply below_alloc | apply pw_below_drewN | apply below_drew1 | refine bs ?_ GE172.out | refine bs ?_ GE173.out | refine bs ?_ GE178.out | refine bs ?_ GE182.out) | exact HB.out)) hb); clear BK172; clear BK173; clear BK178; clear BK182; clear HB; have BK172 := n0_; have BK173 := n1_; have BK178 := n2_; have BK182 := n3_; have HB := n4_; clear n0_ n1_ n2_ n3_ n4_; (try clear hb); (try clear hb2); (try clear hk); (try clear hi); have hcz206_0 : w205.cell? ⟨gb173, 0, none⟩ = some (.int .i64 a2_0) := (blk_cell BK173.out 0).trans rfl; have hcz206_1 : w205.cell? ⟨gb173, 1, none⟩ = some (.int .i64 a2_1) := (blk_cell BK173.out 1).trans rfl; have hcz206_2 : w205.cell? ⟨gb173, 2, none⟩ = some (.int .i64 a2_2) := (blk_cell BK173.out 2).trans rfl; have hfz206_0 := blk_frozen BK173.out 0; have hfz206_1 := blk_frozen BK173.out 1; have hfz206_2 := blk_frozen BK173.out 2))
                 go_ret
                 exact ⟨by first | rfl | (simp [errW_none, errW_some] <;> rfl) | (simp [*, errW_none, errW_some] <;> rfl), by repeat (first | (with_reducible first | exact HB.out | apply below_alloc | apply pw_below_drewN | apply below_drew1 | refine bs ?_ GE172.out | refine bs ?_ GE173.out | refine bs ?_ GE178.out | refine bs ?_ GE182.out) | exact HB.out)⟩
                ·rw [if_neg c200] at H
                 have c200b0 : (t188 == 0) = false := beq_eq_false_iff_ne.mpr c200
                 have c200b1 : (t188 != 0) = true := bne_iff_ne.mpr c200
                 obtain rfl := Option.some.inj H
                 have hnb207 := NB173_172.out
                 have hnc207 := NB172_173.out
                 have hnb208 := NB173_178.out
                 have hnc208 := NB178_173.out
                 have hnb209 := NB173_182.out
                 have hnc209 := NB182_173.out
                 have hcz210_0 : wc.cell? ⟨gb173, 0, none⟩ = some (.int .i64 a2_0) := (blk_cell BK173.out 0).trans rfl
                 have hcz210_1 : wc.cell? ⟨gb173, 1, none⟩ = some (.int .i64 a2_1) := (blk_cell BK173.out 1).trans rfl
                 have hcz210_2 : wc.cell? ⟨gb173, 2, none⟩ = some (.int .i64 a2_2) := (blk_cell BK173.out 2).trans rfl
                 have hfz210_0 := blk_frozen BK173.out 0
                 have hfz210_1 := blk_frozen BK173.out 1
                 have hfz210_2 := blk_frozen BK173.out 2
                 go_wp2_with (first | ((with_reducible refine gate_callee (f := 14) rfl ?_); refine goesL_ (some 98) rfl rfl Try.func14 (by kernel_rfl) rfl #[.int .i64 a1, .int .i64 a2_0, .int .i64 a2_1, .int .i64 a2_2] rfl (by (try simp only [List.map_toArray, List.map_cons, List.map_nil]); first | done | rfl | (simp only [List.length_drop, List.length_take]; rfl)) ?_; (with_reducible refine (bucket_Bound.calls kj44 a1 a2_0 a2_1 a2_2 t188 t189 _ A118.out).mono ?_); rintro e w211 ⟨rfl, hb⟩; refine ⟨_, rfl, ?_⟩; have n0_ := Aside0.mk (blk_below (g := gb172) (o := .cells #[.int .i64 a0_0, .int .i64 a0_1] 23 (0, 0)) (by (with_reducible repeat (first | refine bdN ?_ _ | refine bd ?_ | refine ba ?_ _)); exact BK172.out) hb); have n1_ := Aside0.mk (blk_below (g := gb173) (o := .cells #[.int .i64 a2_0, .int .i64 a2_1, .int .i64 a2_2] 33 (0, 0)) (by (with_reducible repeat (first | refine bdN ?_ _ | refine bd ?_ | refine ba ?_ _)); exact BK173.out) hb); have n2_ := Aside0.mk (blk_below (g := gb178) (o := .cells #[.int .i64 t175, .int .i64 t176] 23 (0, 0)) (by (with_reducible repeat (first | refine bdN ?_ _ | refine bd ?_ | refine ba ?_ _)); exact BK178.out) hb); have n3_ := Aside0.mk (blk_below (g := gb182) (o := .cells #[.int .i64 t179, .int .i64 t180] 23 (0, 0)) (by (with_reducible repeat (first | refine bdN ?_ _ | refine bd ?_ | refine ba ?_ _)); exact BK182.out) hb); have n4_ := Aside0.mk (below_step (by repeat (first | (with_reducible first | exact HB.out | apply below_alloc | apply pw_below_drewN | apply below_drew1 | refine bs ?_ GE172.out | refine bs ?_ GE173.out | refine bs ?_ GE178.out | refine bs ?_ GE182.out) | exact HB.out)) hb); clear BK172; clear BK173; clear BK178; clear BK182; clear HB; have BK172 := n0_; have BK173 := n1_; have BK178 := n2_; have BK182 := n3_; have HB := n4_; clear n0_ n1_ n2_ n3_ n4_; (try clear hb); (try clear hb2); (try clear hk); (try clear hi); have hcz212_0 : w211.cell? ⟨gb173, 0, none⟩ = some (.int .i64 a2_0) := (blk_cell BK173.out 0).trans rfl; have hcz212_1 : w211.cell? ⟨gb173, 1, none⟩ = some (.int .i64 a2_1) := (blk_cell BK173.out 1).trans rfl; have hcz212_2 : w211.cell? ⟨gb173, 2, none⟩ = some (.int .i64 a2_2) := (blk_cell BK173.out 2).trans rfl; have hfz212_0 := blk_frozen BK173.out 0; have hfz212_1 := blk_frozen BK173.out 1; have hfz212_2 := blk_frozen BK173.out 2))
                 go_ret
                 exact ⟨by first | rfl | (simp [errW_none, errW_some] <;> rfl) | (simp [*, errW_none, errW_some] <;> rfl), by repeat (first | (with_reducible first | exact HB.out | apply below_alloc | apply pw_below_drewN | apply below_drew1 | refine bs ?_ GE172.out | refine bs ?_ GE173.out | refine bs ?_ GE178.out | refine bs ?_ GE182.out) | exact HB.out)⟩
               ·rw [if_neg c199] at H
                have c199b0 : decide (a2_2 < 0) = false := decide_eq_false c199
                clear c199
                by_cases c213 : a2_2 > 8
                ·rw [if_pos c213] at H
                 have c213b0 : decide (8 < a2_2) = true := decide_eq_true c213
                 clear c213
                 by_cases c214 : t188 = 0
                 ·rw [if_pos c214] at H
                  have c214b0 : (t188 == 0) = true := beq_iff_eq.mpr c214
                  have c214b1 : (t188 != 0) = false := bne_eq_false_iff_eq.mpr c214
                  clear c214
                  obtain rfl := Option.some.inj H
                  have hnb215 := NB173_172.out
                  have hnc215 := NB172_173.out
                  have hnb216 := NB173_178.out
                  have hnc216 := NB178_173.out
                  have hnb217 := NB173_182.out
                  have hnc217 := NB182_173.out
                  have hcz218_0 : wc.cell? ⟨gb173, 0, none⟩ = some (.int .i64 a2_0) := (blk_cell BK173.out 0).trans rfl
                  have hcz218_1 : wc.cell? ⟨gb173, 1, none⟩ = some (.int .i64 a2_1) := (blk_cell BK173.out 1).trans rfl
                  have hcz218_2 : wc.cell? ⟨gb173, 2, none⟩ = some (.int .i64 a2_2) := (blk_cell BK173.out 2).trans rfl
                  have hfz218_0 := blk_frozen BK173.out 0
                  have hfz218_1 := blk_frozen BK173.out 1
                  have hfz218_2 := blk_frozen BK173.out 2
                  go_wp2_with (first | ((with_reducible refine gate_callee (f := 14) rfl ?_); refine goesL_ (some 98) rfl rfl Try.func14 (by kernel_rfl) rfl #[.int .i64 a1, .int .i64 a2_0, .int .i64 a2_1, .int .i64 a2_2] rfl (by (try simp only [List.map_toArray, List.map_cons, List.map_nil]); first | done | rfl | (simp only [List.length_drop, List.length_take]; rfl)) ?_; (with_reducible refine (bucket_Bound.calls kj44 a1 a2_0 a2_1 a2_2 t188 t189 _ A118.out).mono ?_); rintro e w219 ⟨rfl, hb⟩; refine ⟨_, rfl, ?_⟩; have n0_ := Aside0.mk (blk_below (g := gb172) (o := .cells #[.int .i64 a0_0, .int .i64 a0_1] 23 (0, 0)) (by (with_reducible repeat (first | refine bdN ?_ _ | refine bd ?_ | refine ba ?_ _)); exact BK172.out) hb); have n1_ := Aside0.mk (blk_below (g := gb173) (o := .cells #[.int .i64 a2_0, .int .i64 a2_1, .int .i64 a2_2] 33 (0, 0)) (by (with_reducible repeat (first | refine bdN ?_ _ | refine bd ?_ | refine ba ?_ _)); exact BK173.out) hb); have n2_ := Aside0.mk (blk_below (g := gb178) (o := .cells #[.int .i64 t175, .int .i64 t176] 23 (0, 0)) (by (with_reducible repeat (first | refine bdN ?_ _ | refine bd ?_ | refine ba ?_ _)); exact BK178.out) hb); have n3_ := Aside0.mk (blk_below (g := gb182) (o := .cells #[.int .i64 t179, .int .i64 t180] 23 (0, 0)) (by (with_reducible repeat (first | refine bdN ?_ _ | refine bd ?_ | refine ba ?_ _)); exact BK182.out) hb); have n4_ := Aside0.mk (below_step (by repeat (first | (with_reducible first | exact HB.out | apply below_alloc | apply pw_below_drewN | apply below_drew1 | refine bs ?_ GE172.out | refine bs ?_ GE173.out | refine bs ?_ GE178.out | refine bs ?_ GE182.out) | exact HB.out)) hb); clear BK172; clear BK173; clear BK178; clear BK182; clear HB; have BK172 := n0_; have BK173 := n1_; have BK178 := n2_; have BK182 := n3_; have HB := n4_; clear n0_ n1_ n2_ n3_ n4_; (try clear hb); (try clear hb2); (try clear hk); (try clear hi); have hcz220_0 : w219.cell? ⟨gb173, 0, none⟩ = some (.int .i64 a2_0) := (blk_cell BK173.out 0).trans rfl; have hcz220_1 : w219.cell? ⟨gb173, 1, none⟩ = some (.int .i64 a2_1) := (blk_cell BK173.out 1).trans rfl; have hcz220_2 : w219.cell? ⟨gb173, 2, none⟩ = some (.int .i64 a2_2) := (blk_cell BK173.out 2).trans rfl; have hfz220_0 := blk_frozen BK173.out 0; have hfz220_1 := blk_frozen BK173.out 1; have hfz220_2 := blk_frozen BK173.out 2))
                  go_ret
                  exact ⟨by first | rfl | (simp [errW_none, errW_some] <;> rfl) | (simp [*, errW_none, errW_some] <;> rfl), by repeat (first | (with_reducible first | exact HB.out | apply below_alloc | apply pw_below_drewN | apply below_drew1 | refine bs ?_ GE172.out | refine bs ?_ GE173.out | refine bs ?_ GE178.out | refine bs ?_ GE182.out) | exact HB.out)⟩
                 ·rw [if_neg c214] at H
                  have c214b0 : (t188 == 0) = false := beq_eq_false_iff_ne.mpr c214
                  have c214b1 : (t188 != 0) = true := bne_iff_ne.mpr c214
                  obtain rfl := Option.some.inj H
                  have hnb221 := NB173_172.out
                  have hnc221 := NB172_173.out
                  have hnb222 := NB173_178.out
                  have hnc222 := NB178_173.out
                  have hnb223 := NB173_182.out
                  have hnc223 := NB182_173.out
                  have hcz224_0 : wc.cell? ⟨gb173, 0, none⟩ = some (.int .i64 a2_0) := (blk_cell BK173.out 0).trans rfl
                  have hcz224_1 : wc.cell? ⟨gb173, 1, none⟩ = some (.int .i64 a2_1) := (blk_cell BK173.out 1).trans rfl
                  have hcz224_2 : wc.cell? ⟨gb173, 2, none⟩ = some (.int .i64 a2_2) := (blk_cell BK173.out 2).trans rfl
                  have hfz224_0 := blk_frozen BK173.out 0
                  have hfz224_1 := blk_frozen BK173.out 1
                  have hfz224_2 := blk_frozen BK173.out 2
                  go_wp2_with (first | ((with_reducible refine gate_callee (f := 14) rfl ?_); refine goesL_ (some 98) rfl rfl Try.func14 (by kernel_rfl) rfl #[.int .i64 a1, .int .i64 a2_0, .int .i64 a2_1, .int .i64 a2_2] rfl (by (try simp only [List.map_toArray, List.map_cons, List.map_nil]); first | done | rfl | (simp only [List.length_drop, List.length_take]; rfl)) ?_; (with_reducible refine (bucket_Bound.calls kj44 a1 a2_0 a2_1 a2_2 t188 t189 _ A118.out).mono ?_); rintro e w225 ⟨rfl, hb⟩; refine ⟨_, rfl, ?_⟩; have n0_ := Aside0.mk (blk_below (g := gb172) (o := .cells #[.int .i64 a0_0, .int .i64 a0_1] 23 (0, 0)) (by (with_reducible repeat (first | refine bdN ?_ _ | refine bd ?_ | refine ba ?_ _)); exact BK172.out) hb); have n1_ := Aside0.mk (blk_below (g := gb173) (o := .cells #[.int .i64 a2_0, .int .i64 a2_1, .int .i64 a2_2] 33 (0, 0)) (by (with_reducible repeat (first | refine bdN ?_ _ | refine bd ?_ | refine ba ?_ _)); exact BK173.out) hb); have n2_ := Aside0.mk (blk_below (g := gb178) (o := .cells #[.int .i64 t175, .int .i64 t176] 23 (0, 0)) (by (with_reducible repeat (first | refine bdN ?_ _ | refine bd ?_ | refine ba ?_ _)); exact BK178.out) hb); have n3_ := Aside0.mk (blk_below (g := gb182) (o := .cells #[.int .i64 t179, .int .i64 t180] 23 (0, 0)) (by (with_reducible repeat (first | refine bdN ?_ _ | refine bd ?_ | refine ba ?_ _)); exact BK182.out) hb); have n4_ := Aside0.mk (below_step (by repeat (first | (with_reducible first | exact HB.out | apply below_alloc | apply pw_below_drewN | apply below_drew1 | refine bs ?_ GE172.out | refine bs ?_ GE173.out | refine bs ?_ GE178.out | refine bs ?_ GE182.out) | exact HB.out)) hb); clear BK172; clear BK173; clear BK178; clear BK182; clear HB; have BK172 := n0_; have BK173 := n1_; have BK178 := n2_; have BK182 := n3_; have HB := n4_; clear n0_ n1_ n2_ n3_ n4_; (try clear hb); (try clear hb2); (try clear hk); (try clear hi); have hcz226_0 : w225.cell? ⟨gb173, 0, none⟩ = some (.int .i64 a2_0) := (blk_cell BK173.out 0).trans rfl; have hcz226_1 : w225.cell? ⟨gb173, 1, none⟩ = some (.int .i64 a2_1) := (blk_cell BK173.out 1).trans rfl; have hcz226_2 : w225.cell? ⟨gb173, 2, none⟩ = some (.int .i64 a2_2) := (blk_cell BK173.out 2).trans rfl; have hfz226_0 := blk_frozen BK173.out 0; have hfz226_1 := blk_frozen BK173.out 1; have hfz226_2 := blk_frozen BK173.out 2))
                  go_ret
                  exact ⟨by first | rfl | (simp [errW_none, errW_some] <;> rfl) | (simp [*, errW_none, errW_some] <;> rfl), by repeat (first | (with_reducible first | exact HB.out | apply below_alloc | apply pw_below_drewN | apply below_drew1 | refine bs ?_ GE172.out | refine bs ?_ GE173.out | refine bs ?_ GE178.out | refine bs ?_ GE182.out) | exact HB.out)⟩
                ·rw [if_neg c213] at H
                 have c213b0 : decide (8 < a2_2) = false := decide_eq_false c213
                 clear c213
                 by_cases c227 : t189 = 0
                 ·rw [if_pos c227] at H
                  have c227b0 : (t189 == 0) = true := beq_iff_eq.mpr c227
                  have c227b1 : (t189 != 0) = false := bne_eq_false_iff_eq.mpr c227
                  clear c227
                  replace H := Option.bind_eq_some_iff.mp H
                  obtain ⟨t190, A2280, H⟩ := H
                  replace H : (some (t188 == (wrap64 ((wrap64 ((wrap64 (a1 * a2_0)) + t190)) + (wrap64 ((wrap64 (100 * a2_2)) * a2_1)))))) = some r := H
                  have A228 := Aside0.mk A2280
                  clear A2280
                  obtain rfl := Option.some.inj H
                  have hnb229 := NB173_172.out
                  have hnc229 := NB172_173.out
                  have hnb230 := NB173_178.out
                  have hnc230 := NB178_173.out
                  have hnb231 := NB173_182.out
                  have hnc231 := NB182_173.out
                  have hcz232_0 : wc.cell? ⟨gb173, 0, none⟩ = some (.int .i64 a2_0) := (blk_cell BK173.out 0).trans rfl
                  have hcz232_1 : wc.cell? ⟨gb173, 1, none⟩ = some (.int .i64 a2_1) := (blk_cell BK173.out 1).trans rfl
                  have hcz232_2 : wc.cell? ⟨gb173, 2, none⟩ = some (.int .i64 a2_2) := (blk_cell BK173.out 2).trans rfl
                  have hfz232_0 := blk_frozen BK173.out 0
                  have hfz232_1 := blk_frozen BK173.out 1
                  have hfz232_2 := blk_frozen BK173.out 2
                  try go_wp2_with (first | ((with_reducible refine gate_callee (f := 14) rfl ?_); refine goesL_ (some 98) rfl rfl Try.func14 (by kernel_rfl) rfl #[.int .i64 a1, .int .i64 a2_0, .int .i64 a2_1, .int .i64 a2_2] rfl (by (try simp only [List.map_toArray, List.map_cons, List.map_nil]); first | done | rfl | (simp only [List.length_drop, List.length_take]; rfl)) ?_; (with_reducible refine (bucket_Bound.calls kj44 a1 a2_0 a2_1 a2_2 t188 t189 _ A118.out).mono ?_); rintro e w233 ⟨rfl, hb⟩; refine ⟨_, rfl, ?_⟩; have n0_ := Aside0.mk (blk_below (g := gb172) (o := .cells #[.int .i64 a0_0, .int .i64 a0_1] 23 (0, 0)) (by (with_reducible repeat (first | refine bdN ?_ _ | refine bd ?_ | refine ba ?_ _)); exact BK172.out) hb); have n1_ := Aside0.mk (blk_below (g := gb173) (o := .cells #[.int .i64 a2_0, .int .i64 a2_1, .int .i64 a2_2] 33 (0, 0)) (by (with_reducible repeat (first | refine bdN ?_ _ | refine bd ?_ | refine ba ?_ _)); exact BK173.out) hb); have n2_ := Aside0.mk (blk_below (g := gb178) (o := .cells #[.int .i64 t175, .int .i64 t176] 23 (0, 0)) (by (with_reducible repeat (first | refine bdN ?_ _ | refine bd ?_ | refine ba ?_ _)); exact BK178.out) hb); have n3_ := Aside0.mk (blk_below (g := gb182) (o := .cells #[.int .i64 t179, .int .i64 t180] 23 (0, 0)) (by (with_reducible repeat (first | refine bdN ?_ _ | refine bd ?_ | refine ba ?_ _)); exact BK182.out) hb); have n4_ := Aside0.mk (below_step (by repeat (first | (with_reducible first | exact HB.out | apply below_alloc | apply pw_below_drewN | apply below_drew1 | refine bs ?_ GE172.out | refine bs ?_ GE173.out | refine bs ?_ GE178.out | refine bs ?_ GE182.out) | exact HB.out)) hb); clear BK172; clear BK173; clear BK178; clear BK182; clear HB; have BK172 := n0_; have BK173 := n1_; have BK178 := n2_; have BK182 := n3_; have HB := n4_; clear n0_ n1_ n2_ n3_ n4_; (try clear hb); (try clear hb2); (try clear hk); (try clear hi); have hcz234_0 : w233.cell? ⟨gb173, 0, none⟩ = some (.int .i64 a2_0) := (blk_cell BK173.out 0).trans rfl; have hcz234_1 : w233.cell? ⟨gb173, 1, none⟩ = some (.int .i64 a2_1) := (blk_cell BK173.out 1).trans rfl; have hcz234_2 : w233.cell? ⟨gb173, 2, none⟩ = some (.int .i64 a2_2) := (blk_cell BK173.out 2).trans rfl; have hfz234_0 := blk_frozen BK173.out 0; have hfz234_1 := blk_frozen BK173.out 1; have hfz234_2 := blk_frozen BK173.out 2))
                  have n0_ := Aside0.mk (bd BK172.out)
                  have n1_ := Aside0.mk (bd BK173.out)
                  have n2_ := Aside0.mk (bd BK178.out)
                  have n3_ := Aside0.mk (bd BK182.out)
                  have n4_ := Aside0.mk (below_drew1 HB.out)
                  clear BK172
                  clear BK173
                  clear BK178
                  clear BK182
                  clear HB
                  have BK172 := n0_
                  have BK173 := n1_
                  have BK178 := n2_
                  have BK182 := n3_
                  have HB := n4_
                  clear n0_ n1_ n2_ n3_ n4_
                  refine start_ (n := 21) (S := fun w' => w'.cell? ⟨gb173, 0, none⟩ = some (.int .i64 a2_0) ∧ w'.cell? ⟨gb173, 1, none⟩ = some (.int .i64 a2_1) ∧ w'.cell? ⟨gb173, 2, none⟩ = some (.int .i64 a2_2)) (ds := []) #[false, false, false, false, false, false, false, false, false, false, false, false, false, false, false, false, false, false, false, false, false] (by kernel_rfl) rfl rfl ⟨(blk_cell BK173.out 0).trans rfl, (blk_cell BK173.out 1).trans rfl, (blk_cell BK173.out 2).trans rfl⟩ (fun hHeld => ?_); refine with_tabW mainsheetlaw11_BucketChanges.tab19 mainsheetlaw11_BucketChanges.bits19 (fun HT_ HW_ => ?_)
                  generalize w233.drew = w235 at BK172 BK173 BK178 BK182 HB hHeld ⊢
                  refine pure_ (i := 0) (N := some 143) (v := ?_) (a' := ?_) #[true, false, false, false, false, false, false, false, false, false, false, false, false, false, false, false, false, false, false, false, false] rfl rfl (any_of HT_.out (by kernel_rfl)) (fun _ _ _ h => h) (Or.inl ⟨by rfl, ?_⟩) ?_ ?_
                  rotate_left
                  ·intro w'
                   go_simp
                   with_reducible rfl
                  rotate_left
                  ·simp only [Act.put, LsA, LsZ, LsS, i64_w, i32_w]
                   rfl
                  refine pure_ (i := 1) (N := some 144) (v := ?_) (a' := ?_) #[true, true, false, false, false, false, false, false, false, false, false, false, false, false, false, false, false, false, false, false, false] rfl rfl (any_of HT_.out (by kernel_rfl)) (fun _ _ _ h => h) (Or.inl ⟨by rfl, ?_⟩) ?_ ?_
                  rotate_left
                  ·intro w'
                   go_simp
                   with_reducible rfl
                  rotate_left
                  ·simp only [Act.put, LsA, LsZ, LsS, i64_w, i32_w]
                   rfl
                  refine pure_ (i := 2) (N := some 145) (v := ?_) (a' := ?_) #[true, true, true, false, false, false, false, false, false, false, false, false, false, false, false, false, false, false, false, false, false] rfl rfl (any_of HT_.out (by kernel_rfl)) (fun _ _ _ h => h) (Or.inl ⟨by rfl, ?_⟩) ?_ ?_
                  rotate_left
                  ·intro w'
                   go_simp
                   with_reducible rfl
                  rotate_left
                  ·simp only [Act.put, LsA, LsZ, LsS, i64_w, i32_w]
                   rfl
                  refine pure_ (i := 3) (N := some 146) (v := ?_) (a' := ?_) #[true, true, true, true, false, false, false, false, false, false, false, false, false, false, false, false, false, false, false, false, false] rfl rfl (any_of HT_.out (by kernel_rfl)) (fun _ _ _ h => h) (Or.inl ⟨by rfl, ?_⟩) ?_ ?_
                  rotate_left
                  ·intro w'
                   go_simp
                   with_reducible rfl
                  rotate_left
                  ·simp only [Act.put, LsA, LsZ, LsS, i64_w, i32_w]
                   rfl
                  refine pure_ (i := 4) (N := some 147) (v := ?_) (a' := ?_) #[true, true, true, true, true, false, false, false, false, false, false, false, false, false, false, false, false, false, false, false, false] rfl rfl (any_of HT_.out (by kernel_rfl)) (fun _ _ _ h => h) (Or.inl ⟨by rfl, ?_⟩) ?_ ?_
                  rotate_left
                  ·intro w'
                   go_simp
                   with_reducible rfl
                  rotate_left
                  ·simp only [Act.put, LsA, LsZ, LsS, i64_w, i32_w]
                   rfl
                  refine pure_ (i := 5) (N := some 148) (v := ?_) (a' := ?_) #[true, true, true, true, true, true, false, false, false, false, false, false, false, false, false, false, false, false, false, false, false] rfl rfl (any_of HT_.out (by kernel_rfl)) (fun _ _ _ h => h) (Or.inl ⟨by rfl, ?_⟩) ?_ ?_
                  rotate_left
                  ·intro w'
                   go_simp
                   with_reducible rfl
                  rotate_left
                  ·simp only [Act.put, LsA, LsZ, LsS, i64_w, i32_w]
                   rfl
                  refine pure_ (i := 8) (N := some 151) (v := ?_) (a' := ?_) #[true, true, true, true, true, true, false, false, true, false, false, false, false, false, false, false, false, false, false, false, false] rfl rfl (any_of HT_.out (by kernel_rfl)) (fun _ _ _ h => h) (Or.inl ⟨by rfl, ?_⟩) ?_ ?_
                  rotate_left
                  ·intro w'
                   go_simp
                   with_reducible rfl
                  rotate_left
                  ·simp only [Act.put, LsA, LsZ, LsS, i64_w, i32_w]
                   rfl
                  refine pure_ (i := 11) (N := some 154) (v := ?_) (a' := ?_) #[true, true, true, true, true, true, false, false, true, false, false, true, false, false, false, false, false, false, false, false, false] rfl rfl (any_of HT_.out (by kernel_rfl)) (fun _ _ _ h => h) (Or.inl ⟨by rfl, ?_⟩) ?_ ?_
                  rotate_left
                  ·intro w'
                   go_simp
                   with_reducible rfl
                  rotate_left
                  ·simp only [Act.put, LsA, LsZ, LsS, i64_w, i32_w]
                   rfl
                  refine pure_ (i := 14) (N := some 157) (v := ?_) (a' := ?_) #[true, true, true, true, true, true, false, false, true, false, false, true, false, false, true, false, false, false, false, false, false] rfl rfl (any_of HT_.out (by kernel_rfl)) (fun _ _ _ h => h) (Or.inl ⟨by rfl, ?_⟩) ?_ ?_
                  rotate_left
                  ·intro w'
                   go_simp
                   with_reducible rfl
                  rotate_left
                  ·simp only [Act.put, LsA, LsZ, LsS, i64_w, i32_w]
                   rfl
                  refine take_ (i := 6) (N := some 149) (v := ?_) (a' := ?_) #[true, true, true, true, true, true, true, false, true, false, false, true, false, false, true, false, false, false, false, false, false] rfl rfl (take_ofW HT_.out HW_.out (by kernel_rfl)) (fun _ _ _ h => h) (Or.inl ⟨by rfl, ?_⟩) hHeld ?_ ?_
                  rotate_left
                  ·rintro w' ⟨s0, s1, s2⟩
                   go_simp
                   with_reducible rfl
                  rotate_left
                  ·simp only [Act.put, LsA, LsZ, LsS, i64_w, i32_w]
                   rfl
                  refine pure_ (i := 7) (N := some 150) (v := ?_) (a' := ?_) #[true, true, true, true, true, true, true, true, true, false, false, true, false, false, true, false, false, false, false, false, false] rfl rfl (any_of HT_.out (by kernel_rfl)) (fun _ _ _ h => h) (Or.inl ⟨by rfl, ?_⟩) ?_ ?_
                  rotate_left
                  ·intro w'
                   go_simp
                   with_reducible rfl
                  rotate_left
                  ·simp only [Act.put, LsA, LsZ, LsS, i64_w, i32_w]
                   rfl
                  refine take_ (i := 12) (N := some 155) (v := ?_) (a' := ?_) #[true, true, true, true, true, true, true, true, true, false, false, true, true, false, true, false, false, false, false, false, false] rfl rfl (take_ofW HT_.out HW_.out (by kernel_rfl)) (fun _ _ _ h => h) (Or.inl ⟨by rfl, ?_⟩) hHeld ?_ ?_
                  rotate_left
                  ·rintro w' ⟨s0, s1, s2⟩
                   go_simp
                   with_reducible rfl
                  rotate_left
                  ·simp only [Act.put, LsA, LsZ, LsS, i64_w, i32_w]
                   rfl
                  refine pure_ (i := 13) (N := some 156) (v := ?_) (a' := ?_) #[true, true, true, true, true, true, true, true, true, false, false, true, true, true, true, false, false, false, false, false, false] rfl rfl (any_of HT_.out (by kernel_rfl)) (fun _ _ _ h => h) (Or.inl ⟨by rfl, ?_⟩) ?_ ?_
                  rotate_left
                  ·intro w'
                   go_simp
                   with_reducible rfl
                  rotate_left
                  ·simp only [Act.put, LsA, LsZ, LsS, i64_w, i32_w]
                   rfl
                  refine take_ (i := 15) (N := some 158) (v := ?_) (a' := ?_) #[true, true, true, true, true, true, true, true, true, false, false, true, true, true, true, true, false, false, false, false, false] rfl rfl (take_ofW HT_.out HW_.out (by kernel_rfl)) (fun _ _ _ h => h) (Or.inl ⟨by rfl, ?_⟩) hHeld ?_ ?_
                  rotate_left
                  ·rintro w' ⟨s0, s1, s2⟩
                   go_simp
                   with_reducible rfl
                  rotate_left
                  ·simp only [Act.put, LsA, LsZ, LsS, i64_w, i32_w]
                   rfl
                  refine pure_ (i := 16) (N := some 159) (v := ?_) (a' := ?_) #[true, true, true, true, true, true, true, true, true, false, false, true, true, true, true, true, true, false, false, false, false] rfl rfl (any_of HT_.out (by kernel_rfl)) (fun _ _ _ h => h) (Or.inl ⟨by rfl, ?_⟩) ?_ ?_
                  rotate_left
                  ·intro w'
                   go_simp
                   with_reducible rfl
                  rotate_left
                  ·simp only [Act.put, LsA, LsZ, LsS, i64_w, i32_w]
                   rfl
                  refine one_ (i := 9) (N := some 152) #[true, true, true, true, true, true, true, true, true, true, false, true, true, true, true, true, true, false, false, false, false] rfl rfl (one_of HT_.out (by kernel_rfl)) (by decide) (fun K hK => ?_)
                  refine goes_ Try.func20 (by kernel_rfl) rfl #[.int .i64 a1] (by rfl) rfl rfl (by (try simp only [List.map_toArray, List.map_cons, List.map_nil]); first | done | rfl | (simp only [List.length_drop, List.length_take]; rfl)) ?_
                  with_reducible refine (mainsheetref11_Depth.calls a1 t190 _ A228.out).mono ?_
                  rintro e w' ⟨rfl, ⟨nd, rfl⟩⟩
                  refine ⟨_, rfl, ?_⟩
                  refine hK.out _ _ ⟨(blk_cell BK173.out 0).trans rfl, (blk_cell BK173.out 1).trans rfl, (blk_cell BK173.out 2).trans rfl⟩ (fun hHeld => ?_)
                  clear hK K
                  refine norm_ (a' := ?_) ?_ ?_
                  rotate_left
                  ·show Act.put _ (some 152) _ = _
                   simp only [Act.put, LsA, LsZ, LsS, i64_w, i32_w]
                   rfl
                  refine pure_ (i := 10) (N := some 153) (v := ?_) (a' := ?_) #[true, true, true, true, true, true, true, true, true, true, true, true, true, true, true, true, true, false, false, false, false] rfl rfl (any_of HT_.out (by kernel_rfl)) (fun _ _ _ h => h) (Or.inl ⟨by rfl, ?_⟩) ?_ ?_
                  rotate_left
                  ·intro w'
                   go_simp
                   with_reducible rfl
                  rotate_left
                  ·simp only [Act.put, LsA, LsZ, LsS, i64_w, i32_w]
                   rfl
                  refine pure_ (i := 17) (N := some 160) (v := ?_) (a' := ?_) #[true, true, true, true, true, true, true, true, true, true, true, true, true, true, true, true, true, true, false, false, false] rfl rfl (any_of HT_.out (by kernel_rfl)) (fun _ _ _ h => h) (Or.inl ⟨by rfl, ?_⟩) ?_ ?_
                  rotate_left
                  ·intro w'
                   go_simp
                   with_reducible rfl
                  rotate_left
                  ·simp only [Act.put, LsA, LsZ, LsS, i64_w, i32_w]
                   rfl
                  refine pure_ (i := 18) (N := some 161) (v := ?_) (a' := ?_) #[true, true, true, true, true, true, true, true, true, true, true, true, true, true, true, true, true, true, true, false, false] rfl rfl (any_of HT_.out (by kernel_rfl)) (fun _ _ _ h => h) (Or.inl ⟨by rfl, ?_⟩) ?_ ?_
                  rotate_left
                  ·intro w'
                   go_simp
                   with_reducible rfl
                  rotate_left
                  ·simp only [Act.put, LsA, LsZ, LsS, i64_w, i32_w]
                   rfl
                  refine pure_ (i := 19) (N := some 162) (v := ?_) (a' := ?_) #[true, true, true, true, true, true, true, true, true, true, true, true, true, true, true, true, true, true, true, true, false] rfl rfl (any_of HT_.out (by kernel_rfl)) (fun _ _ _ h => h) (Or.inl ⟨by rfl, ?_⟩) ?_ ?_
                  rotate_left
                  ·intro w'
                   go_simp
                   with_reducible rfl
                  rotate_left
                  ·simp only [Act.put, LsA, LsZ, LsS, i64_w, i32_w]
                   rfl
                  refine pure_ (i := 20) (N := some 6) (v := ?_) (a' := ?_) #[true, true, true, true, true, true, true, true, true, true, true, true, true, true, true, true, true, true, true, true, true] rfl rfl (any_of HT_.out (by kernel_rfl)) (fun _ _ _ h => h) (Or.inl ⟨by rfl, ?_⟩) ?_ ?_
                  rotate_left
                  ·intro w'
                   go_simp
                   with_reducible rfl
                  rotate_left
                  ·simp only [Act.put, LsA, LsZ, LsS, i64_w, i32_w]
                   rfl
                  refine done_ (done_of HT_.out (by kernel_rfl)) ?_
                  try go_wp2
                  go_ret
                  exact ⟨by first | rfl | (simp [errW_none, errW_some] <;> rfl) | (simp [*, errW_none, errW_some] <;> rfl), by repeat (first | (with_reducible first | exact HB.out | apply below_alloc | apply pw_below_drewN | apply below_drew1 | refine bs ?_ GE172.out | refine bs ?_ GE173.out | refine bs ?_ GE178.out | refine bs ?_ GE182.out) | exact HB.out)⟩
                 ·rw [if_neg c227] at H
                  have c227b0 : (t189 == 0) = false := beq_eq_false_iff_ne.mpr c227
                  have c227b1 : (t189 != 0) = true := bne_iff_ne.mpr c227
                  obtain rfl := Option.some.inj H
                  have hnb236 := NB173_172.out
                  have hnc236 := NB172_173.out
                  have hnb237 := NB173_178.out
                  have hnc237 := NB178_173.out
                  have hnb238 := NB173_182.out
                  have hnc238 := NB182_173.out
                  have hcz239_0 : wc.cell? ⟨gb173, 0, none⟩ = some (.int .i64 a2_0) := (blk_cell BK173.out 0).trans rfl
                  have hcz239_1 : wc.cell? ⟨gb173, 1, none⟩ = some (.int .i64 a2_1) := (blk_cell BK173.out 1).trans rfl
                  have hcz239_2 : wc.cell? ⟨gb173, 2, none⟩ = some (.int .i64 a2_2) := (blk_cell BK173.out 2).trans rfl
                  have hfz239_0 := blk_frozen BK173.out 0
                  have hfz239_1 := blk_frozen BK173.out 1
                  have hfz239_2 := blk_frozen BK173.out 2
                  try go_wp2_with (first | ((with_reducible refine gate_callee (f := 14) rfl ?_); refine goesL_ (some 98) rfl rfl Try.func14 (by kernel_rfl) rfl #[.int .i64 a1, .int .i64 a2_0, .int .i64 a2_1, .int .i64 a2_2] rfl (by (try simp only [List.map_toArray, List.map_cons, List.map_nil]); first | done | rfl | (simp only [List.length_drop, List.length_take]; rfl)) ?_; (with_reducible refine (bucket_Bound.calls kj44 a1 a2_0 a2_1 a2_2 t188 t189 _ A118.out).mono ?_); rintro e w240 ⟨rfl, hb⟩; refine ⟨_, rfl, ?_⟩; have n0_ := Aside0.mk (blk_below (g := gb172) (o := .cells #[.int .i64 a0_0, .int .i64 a0_1] 23 (0, 0)) (by (with_reducible repeat (first | refine bdN ?_ _ | refine bd ?_ | refine ba ?_ _)); exact BK172.out) hb); have n1_ := Aside0.mk (blk_below (g := gb173) (o := .cells #[.int .i64 a2_0, .int .i64 a2_1, .int .i64 a2_2] 33 (0, 0)) (by (with_reducible repeat (first | refine bdN ?_ _ | refine bd ?_ | refine ba ?_ _)); exact BK173.out) hb); have n2_ := Aside0.mk (blk_below (g := gb178) (o := .cells #[.int .i64 t175, .int .i64 t176] 23 (0, 0)) (by (with_reducible repeat (first | refine bdN ?_ _ | refine bd ?_ | refine ba ?_ _)); exact BK178.out) hb); have n3_ := Aside0.mk (blk_below (g := gb182) (o := .cells #[.int .i64 t179, .int .i64 t180] 23 (0, 0)) (by (with_reducible repeat (first | refine bdN ?_ _ | refine bd ?_ | refine ba ?_ _)); exact BK182.out) hb); have n4_ := Aside0.mk (below_step (by repeat (first | (with_reducible first | exact HB.out | apply below_alloc | apply pw_below_drewN | apply below_drew1 | refine bs ?_ GE172.out | refine bs ?_ GE173.out | refine bs ?_ GE178.out | refine bs ?_ GE182.out) | exact HB.out)) hb); clear BK172; clear BK173; clear BK178; clear BK182; clear HB; have BK172 := n0_; have BK173 := n1_; have BK178 := n2_; have BK182 := n3_; have HB := n4_; clear n0_ n1_ n2_ n3_ n4_; (try clear hb); (try clear hb2); (try clear hk); (try clear hi); have hcz241_0 : w240.cell? ⟨gb173, 0, none⟩ = some (.int .i64 a2_0) := (blk_cell BK173.out 0).trans rfl; have hcz241_1 : w240.cell? ⟨gb173, 1, none⟩ = some (.int .i64 a2_1) := (blk_cell BK173.out 1).trans rfl; have hcz241_2 : w240.cell? ⟨gb173, 2, none⟩ = some (.int .i64 a2_2) := (blk_cell BK173.out 2).trans rfl; have hfz241_0 := blk_frozen BK173.out 0; have hfz241_1 := blk_frozen BK173.out 1; have hfz241_2 := blk_frozen BK173.out 2))
                  have n0_ := Aside0.mk (bd BK172.out)
                  have n1_ := Aside0.mk (bd BK173.out)
                  have n2_ := Aside0.mk (bd BK178.out)
                  have n3_ := Aside0.mk (bd BK182.out)
                  have n4_ := Aside0.mk (below_drew1 HB.out)
                  clear BK172
                  clear BK173
                  clear BK178
                  clear BK182
                  clear HB
                  have BK172 := n0_
                  have BK173 := n1_
                  have BK178 := n2_
                  have BK182 := n3_
                  have HB := n4_
                  clear n0_ n1_ n2_ n3_ n4_
                  refine start_ (n := 21) (S := fun w' => True) (ds := []) #[false, false, false, false, false, false, false, false, false, false, false, false, false, false, false, false, false, false, false, false, false] (by kernel_rfl) rfl rfl trivial (fun hHeld => ?_); refine with_tabW mainsheetlaw11_BucketChanges.tab19 mainsheetlaw11_BucketChanges.bits19 (fun HT_ HW_ => ?_)
                  generalize w240.drew = w242 at BK172 BK173 BK178 BK182 HB hHeld ⊢
                  refine pure_ (i := 0) (N := some 143) (v := ?_) (a' := ?_) #[true, false, false, false, false, false, false, false, false, false, false, false, false, false, false, false, false, false, false, false, false] rfl rfl (any_of HT_.out (by kernel_rfl)) (fun _ _ _ h => h) (Or.inl ⟨by rfl, ?_⟩) ?_ ?_
                  rotate_left
                  ·intro w'
                   go_simp
                   with_reducible rfl
                  rotate_left
                  ·simp only [Act.put, LsA, LsZ, LsS, i64_w, i32_w]
                   rfl
                  refine pure_ (i := 1) (N := some 144) (v := ?_) (a' := ?_) #[true, true, false, false, false, false, false, false, false, false, false, false, false, false, false, false, false, false, false, false, false] rfl rfl (any_of HT_.out (by kernel_rfl)) (fun _ _ _ h => h) (Or.inl ⟨by rfl, ?_⟩) ?_ ?_
                  rotate_left
                  ·intro w'
                   go_simp
                   with_reducible rfl
                  rotate_left
                  ·simp only [Act.put, LsA, LsZ, LsS, i64_w, i32_w]
                   rfl
                  refine pure_ (i := 2) (N := some 145) (v := ?_) (a' := ?_) #[true, true, true, false, false, false, false, false, false, false, false, false, false, false, false, false, false, false, false, false, false] rfl rfl (any_of HT_.out (by kernel_rfl)) (fun _ _ _ h => h) (Or.inl ⟨by rfl, ?_⟩) ?_ ?_
                  rotate_left
                  ·intro w'
                   go_simp
                   with_reducible rfl
                  rotate_left
                  ·simp only [Act.put, LsA, LsZ, LsS, i64_w, i32_w]
                   rfl
                  refine pure_ (i := 3) (N := some 146) (v := undef) (a' := ?_) #[true, true, true, true, false, false, false, false, false, false, false, false, false, false, false, false, false, false, false, false, false] rfl rfl (any_of HT_.out (by kernel_rfl)) (fun _ _ _ h => h) (Or.inr ⟨by rfl, rfl⟩) ?_ ?_
                  rotate_left
                  ·simp only [Act.put, LsA, LsZ, LsS, i64_w, i32_w]
                   rfl
                  refine pure_ (i := 4) (N := some 147) (v := undef) (a' := ?_) #[true, true, true, true, true, false, false, false, false, false, false, false, false, false, false, false, false, false, false, false, false] rfl rfl (any_of HT_.out (by kernel_rfl)) (fun _ _ _ h => h) (Or.inr ⟨by rfl, rfl⟩) ?_ ?_
                  rotate_left
                  ·simp only [Act.put, LsA, LsZ, LsS, i64_w, i32_w]
                   rfl
                  refine pure_ (i := 5) (N := some 148) (v := undef) (a' := ?_) #[true, true, true, true, true, true, false, false, false, false, false, false, false, false, false, false, false, false, false, false, false] rfl rfl (any_of HT_.out (by kernel_rfl)) (fun _ _ _ h => h) (Or.inr ⟨by rfl, rfl⟩) ?_ ?_
                  rotate_left
                  ·simp only [Act.put, LsA, LsZ, LsS, i64_w, i32_w]
                   rfl
                  refine pure_ (i := 6) (N := some 149) (v := undef) (a' := ?_) #[true, true, true, true, true, true, true, false, false, false, false, false, false, false, false, false, false, false, false, false, false] rfl rfl (any_of HT_.out (by kernel_rfl)) (fun _ _ _ h => h) (Or.inr ⟨by rfl, rfl⟩) ?_ ?_
                  rotate_left
                  ·simp only [Act.put, LsA, LsZ, LsS, i64_w, i32_w]
                   rfl
                  refine pure_ (i := 7) (N := some 150) (v := undef) (a' := ?_) #[true, true, true, true, true, true, true, true, false, false, false, false, false, false, false, false, false, false, false, false, false] rfl rfl (any_of HT_.out (by kernel_rfl)) (fun _ _ _ h => h) (Or.inr ⟨by rfl, rfl⟩) ?_ ?_
                  rotate_left
                  ·simp only [Act.put, LsA, LsZ, LsS, i64_w, i32_w]
                   rfl
                  refine pure_ (i := 8) (N := some 151) (v := undef) (a' := ?_) #[true, true, true, true, true, true, true, true, true, false, false, false, false, false, false, false, false, false, false, false, false] rfl rfl (any_of HT_.out (by kernel_rfl)) (fun _ _ _ h => h) (Or.inr ⟨by rfl, rfl⟩) ?_ ?_
                  rotate_left
                  ·simp only [Act.put, LsA, LsZ, LsS, i64_w, i32_w]
                   rfl
                  refine pure_ (i := 9) (N := some 152) (v := undef) (a' := ?_) #[true, true, true, true, true, true, true, true, true, true, false, false, false, false, false, false, false, false, false, false, false] rfl rfl (any_of HT_.out (by kernel_rfl)) (fun _ _ _ h => h) (Or.inr ⟨by rfl, rfl⟩) ?_ ?_
                  rotate_left
                  ·simp only [Act.put, LsA, LsZ, LsS, i64_w, i32_w]
                   rfl
                  refine pure_ (i := 10) (N := some 153) (v := undef) (a' := ?_) #[true, true, true, true, true, true, true, true, true, true, true, false, false, false, false, false, false, false, false, false, false] rfl rfl (any_of HT_.out (by kernel_rfl)) (fun _ _ _ h => h) (Or.inr ⟨by rfl, rfl⟩) ?_ ?_
                  rotate_left
                  ·simp only [Act.put, LsA, LsZ, LsS, i64_w, i32_w]
                   rfl
                  refine pure_ (i := 11) (N := some 154) (v := undef) (a' := ?_) #[true, true, true, true, true, true, true, true, true, true, true, true, false, false, false, false, false, false, false, false, false] rfl rfl (any_of HT_.out (by kernel_rfl)) (fun _ _ _ h => h) (Or.inr ⟨by rfl, rfl⟩) ?_ ?_
                  rotate_left
                  ·simp only [Act.put, LsA, LsZ, LsS, i64_w, i32_w]
                   rfl
                  refine pure_ (i := 12) (N := some 155) (v := undef) (a' := ?_) #[true, true, true, true, true, true, true, true, true, true, true, true, true, false, false, false, false, false, false, false, false] rfl rfl (any_of HT_.out (by kernel_rfl)) (fun _ _ _ h => h) (Or.inr ⟨by rfl, rfl⟩) ?_ ?_
                  rotate_left
                  ·simp only [Act.put, LsA, LsZ, LsS, i64_w, i32_w]
                   rfl
                  refine pure_ (i := 13) (N := some 156) (v := undef) (a' := ?_) #[true, true, true, true, true, true, true, true, true, true, true, true, true, true, false, false, false, false, false, false, false] rfl rfl (any_of HT_.out (by kernel_rfl)) (fun _ _ _ h => h) (Or.inr ⟨by rfl, rfl⟩) ?_ ?_
                  rotate_left
                  ·simp only [Act.put, LsA, LsZ, LsS, i64_w, i32_w]
                   rfl
                  refine pure_ (i := 14) (N := some 157) (v := undef) (a' := ?_) #[true, true, true, true, true, true, true, true, true, true, true, true, true, true, true, false, false, false, false, false, false] rfl rfl (any_of HT_.out (by kernel_rfl)) (fun _ _ _ h => h) (Or.inr ⟨by rfl, rfl⟩) ?_ ?_
                  rotate_left
                  ·simp only [Act.put, LsA, LsZ, LsS, i64_w, i32_w]
                   rfl
                  refine pure_ (i := 15) (N := some 158) (v := undef) (a' := ?_) #[true, true, true, true, true, true, true, true, true, true, true, true, true, true, true, true, false, false, false, false, false] rfl rfl (any_of HT_.out (by kernel_rfl)) (fun _ _ _ h => h) (Or.inr ⟨by rfl, rfl⟩) ?_ ?_
                  rotate_left
                  ·simp only [Act.put, LsA, LsZ, LsS, i64_w, i32_w]
                   rfl
                  refine pure_ (i := 16) (N := some 159) (v := undef) (a' := ?_) #[true, true, true, true, true, true, true, true, true, true, true, true, true, true, true, true, true, false, false, false, false] rfl rfl (any_of HT_.out (by kernel_rfl)) (fun _ _ _ h => h) (Or.inr ⟨by rfl, rfl⟩) ?_ ?_
                  rotate_left
                  ·simp only [Act.put, LsA, LsZ, LsS, i64_w, i32_w]
                   rfl
                  refine pure_ (i := 17) (N := some 160) (v := undef) (a' := ?_) #[true, true, true, true, true, true, true, true, true, true, true, true, true, true, true, true, true, true, false, false, false] rfl rfl (any_of HT_.out (by kernel_rfl)) (fun _ _ _ h => h) (Or.inr ⟨by rfl, rfl⟩) ?_ ?_
                  rotate_left
                  ·simp only [Act.put, LsA, LsZ, LsS, i64_w, i32_w]
                   rfl
                  refine pure_ (i := 18) (N := some 161) (v := undef) (a' := ?_) #[true, true, true, true, true, true, true, true, true, true, true, true, true, true, true, true, true, true, true, false, false] rfl rfl (any_of HT_.out (by kernel_rfl)) (fun _ _ _ h => h) (Or.inr ⟨by rfl, rfl⟩) ?_ ?_
                  rotate_left
                  ·simp only [Act.put, LsA, LsZ, LsS, i64_w, i32_w]
                   rfl
                  refine pure_ (i := 19) (N := some 162) (v := ?_) (a' := ?_) #[true, true, true, true, true, true, true, true, true, true, true, true, true, true, true, true, true, true, true, true, false] rfl rfl (any_of HT_.out (by kernel_rfl)) (fun _ _ _ h => h) (Or.inl ⟨by rfl, ?_⟩) ?_ ?_
                  rotate_left
                  ·intro w'
                   go_simp
                   with_reducible rfl
                  rotate_left
                  ·simp only [Act.put, LsA, LsZ, LsS, i64_w, i32_w]
                   rfl
                  refine pure_ (i := 20) (N := some 6) (v := ?_) (a' := ?_) #[true, true, true, true, true, true, true, true, true, true, true, true, true, true, true, true, true, true, true, true, true] rfl rfl (any_of HT_.out (by kernel_rfl)) (fun _ _ _ h => h) (Or.inl ⟨by rfl, ?_⟩) ?_ ?_
                  rotate_left
                  ·intro w'
                   go_simp
                   with_reducible rfl
                  rotate_left
                  ·simp only [Act.put, LsA, LsZ, LsS, i64_w, i32_w]
                   rfl
                  refine done_ (done_of HT_.out (by kernel_rfl)) ?_
                  try go_wp2
                  go_ret
                  exact ⟨by first | rfl | (simp [errW_none, errW_some] <;> rfl) | (simp [*, errW_none, errW_some] <;> rfl), by repeat (first | (with_reducible first | exact HB.out | apply below_alloc | apply pw_below_drewN | apply below_drew1 | refine bs ?_ GE172.out | refine bs ?_ GE173.out | refine bs ?_ GE178.out | refine bs ?_ GE182.out) | exact HB.out)⟩
 ·replace c5 := Bool.eq_false_iff.mpr c5
  subst c5
  have H1 : (some false) = some r := by rw [if_neg (show ¬ (false = true) by decide)] at H; exact H
  clear H
  have H := H1
  clear H1
  obtain rfl := Option.some.inj H
  go_enter Try.func8, Try.ntmps8
  go_wp2_with (first | ((with_reducible refine gate_dst (N := 3) rfl ?_); refine box_event ?hg (N := 3) ?hd (cs := #[.int .i64 a0_0, .int .i64 a0_1]) (t := 23) ?hr ?_; (case hd => rfl); (case hg => rfl); (case hr => first | (go_simp; done) | (go_simp; rfl)); intro gb172 hg w243 hbox hb; have n0_ := Aside0.mk (below_step (by repeat (first | (with_reducible first | exact HB.out | apply below_alloc | apply pw_below_drewN | apply below_drew1) | exact HB.out)) hb); have n1_ := Aside0.mk (hbox); have n2_ := Aside0.mk ((by rw [hg]; exact (below_size (by repeat (first | (with_reducible first | exact HB.out | apply below_alloc | apply pw_below_drewN | apply below_drew1) | exact HB.out))) : w.heap.size ≤ gb172)); have n3_ := Aside0.mk ((by rw [hg]; exact (below_size (by repeat (first | (with_reducible first | exact HB.out | apply below_alloc | apply pw_below_drewN | apply below_drew1) | exact HB.out))) : w.heap.size ≤ gb172)); clear HB; have HB := n0_; have BK172 := n1_; have GW172 := n2_; have GE172 := n3_; clear n0_ n1_ n2_ n3_; clear hb hbox hg) | ((with_reducible refine gate_dst (N := 5) rfl ?_); refine box_event ?hg (N := 5) ?hd (cs := #[.int .i64 a2_0, .int .i64 a2_1, .int .i64 a2_2]) (t := 33) ?hr ?_; (case hd => rfl); (case hg => rfl); (case hr => first | (go_simp; done) | (go_simp; rfl)); intro gb173 hg w244 hbox hb; have n0_ := Aside0.mk (blk_below (g := gb172) (o := .cells #[.int .i64 a0_0, .int .i64 a0_1] 23 (0, 0)) (by (with_reducible repeat (first | refine bdN ?_ _ | refine bd ?_ | refine ba ?_ _)); exact BK172.out) hb); have n1_ := Aside0.mk (below_step (by repeat (first | (with_reducible first | exact HB.out | apply below_alloc | apply pw_below_drewN | apply below_drew1 | refine bs ?_ GE172.out) | exact HB.out)) hb); have n2_ := Aside0.mk (hbox); have n3_ := Aside0.mk ((by rw [hg]; exact (below_size (by repeat (first | (with_reducible first | exact HB.out | apply below_alloc | apply pw_below_drewN | apply below_drew1 | refine bs ?_ GE172.out) | exact HB.out))) : w.heap.size ≤ gb173)); have n4_ := Aside0.mk ((by rw [hg]; exact (below_size (by repeat (first | (with_reducible first | exact HB.out | apply below_alloc | apply pw_below_drewN | apply below_drew1 | refine bs ?_ GE172.out) | exact HB.out))) : w.heap.size ≤ gb173)); have n5_ := Aside0.mk ((by rw [hg]; exact Nat.ne_of_lt (blk_lt (g := gb172) (o := .cells #[.int .i64 a0_0, .int .i64 a0_1] 23 (0, 0)) (by (with_reducible repeat (first | refine bdN ?_ _ | refine bd ?_ | refine ba ?_ _)); exact BK172.out)) : gb172 ≠ gb173)); have n6_ := Aside0.mk ((by rw [hg]; exact Nat.ne_of_gt (blk_lt (g := gb172) (o := .cells #[.int .i64 a0_0, .int .i64 a0_1] 23 (0, 0)) (by (with_reducible repeat (first | refine bdN ?_ _ | refine bd ?_ | refine ba ?_ _)); exact BK172.out)) : gb173 ≠ gb172)); clear BK172; clear HB; have BK172 := n0_; have HB := n1_; have BK173 := n2_; have GW173 := n3_; have GE173 := n4_; have NB172_173 := n5_; have NB173_172 := n6_; clear n0_ n1_ n2_ n3_ n4_ n5_ n6_; clear hb hbox hg) | ((with_reducible refine gate_callee (f := 9) rfl ?_); refine goesL_ (some 14) rfl rfl Try.func9 (by kernel_rfl) rfl #[] rfl (by (try simp only [List.map_toArray, List.map_cons, List.map_nil]); first | done | rfl | (simp only [List.length_drop, List.length_take]; rfl)) ?_; (with_reducible refine (mainsheetlaw11_wakes.calls k  false _ A4.out).mono ?_); rintro e w245 ⟨rfl, hb⟩; refine ⟨_, rfl, ?_⟩; have n0_ := Aside0.mk (blk_below (g := gb172) (o := .cells #[.int .i64 a0_0, .int .i64 a0_1] 23 (0, 0)) (by (with_reducible repeat (first | refine bdN ?_ _ | refine bd ?_ | refine ba ?_ _)); exact BK172.out) hb); have n1_ := Aside0.mk (blk_below (g := gb173) (o := .cells #[.int .i64 a2_0, .int .i64 a2_1, .int .i64 a2_2] 33 (0, 0)) (by (with_reducible repeat (first | refine bdN ?_ _ | refine bd ?_ | refine ba ?_ _)); exact BK173.out) hb); have n2_ := Aside0.mk (below_step (by repeat (first | (with_reducible first | exact HB.out | apply below_alloc | apply pw_below_drewN | apply below_drew1 | refine bs ?_ GE172.out | refine bs ?_ GE173.out) | exact HB.out)) hb); clear BK172; clear BK173; clear HB; have BK172 := n0_; have BK173 := n1_; have HB := n2_; clear n0_ n1_ n2_; (try clear hb); (try clear hb2); (try clear hk); (try clear hi)))
  go_ret
  exact ⟨by first | rfl | (simp [errW_none, errW_some] <;> rfl) | (simp [*, errW_none, errW_some] <;> rfl), by repeat (first | (with_reducible first | exact HB.out | apply below_alloc | apply pw_below_drewN | apply below_drew1 | refine bs ?_ GE172.out | refine bs ?_ GE173.out) | exact HB.out)⟩

end Go.Proofs.Ytopdmfhpakapiaa.PChg
