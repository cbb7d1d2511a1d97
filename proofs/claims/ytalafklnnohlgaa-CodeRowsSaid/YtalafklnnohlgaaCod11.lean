/- code's Same: two events are one where all that counts is the same. No condition. -/
import Derived.Test.YtalafklnnohlgaaCod10
namespace Go.Proofs.Ytalafklnnohlgaa.Cod
open Go.RowKit X Go.Proofs.YtalafklnnohlgaaW.PrintLast
open Oct hiding agg39 size39
set_option linter.unusedVariables false
set_option linter.unusedSimpArgs false

theorem permS (a b c d e f : Ck) : [a, b, c, d, e, f].Perm [c, d, e, f, b, a] := (show [a, b, c, d, e, f].Perm ([c, d, e, f] ++ [a, b]) from List.perm_append_comm (l₁ := [a, b])).trans (List.Perm.append_left [c, d, e, f] (.swap _ _ _))
/-- An event as a value. -/
def evV (e : Ev) (A6 : Option Addr) (c6 : Nat) (A27 : Option Addr) (c27 : Nat) : Value := .agg (evC e.n (.slice A6 e.nums.length c6) (.slice A27 e.mem.length c27)).toArray
/-- An event whose lists can be read. -/
def EvRd (w : World) (e : Ev) (A6 : Option Addr) (A27 : Option Addr) : Prop := Rds w A6 e.nums.length 1 (i64s e.nums) ∧ Rds w A27 e.mem.length 1 (i64s e.mem)
theorem EvRd.kept {E : Env} {w : World} {e : Ev} {A6 A27 : Option Addr} (h : EvRd E.w0 e A6 A27) (hk : Kept E w) (hF : E.F = fps []) : EvRd w e A6 A27 := ⟨Oct.kept0 h.1 hk hF, Oct.kept0 h.2 hk hF⟩
def sm1 (a b : Ev) : Bool := (a.n 0 == b.n 0) && ((a.n 28 == b.n 28) && ((a.n 1 == b.n 1) && ((a.n 2 == b.n 2) && ((a.n 3 == b.n 3) && ((a.n 4 == b.n 4) && ((a.n 5 == 1) == (b.n 5 == 1)))))))
def sm2 (a b : Ev) : Bool := (a.n 7 == b.n 7) && ((a.n 8 == b.n 8) && ((a.n 9 == b.n 9 && (a.n 10 == b.n 10 && (a.n 11 == b.n 11 && a.n 12 == b.n 12))) && ((a.n 13 == b.n 13 && a.n 14 == b.n 14) && (decide (a.nums = b.nums)))))
def sm3 (a b : Ev) : Bool := (a.n 15 == b.n 15) && ((a.n 16 == b.n 16) && ((a.n 17 == b.n 17) && ((a.n 18 == b.n 18) && ((a.n 19 == b.n 19) && ((a.n 20 == b.n 20) && (a.n 21 == b.n 21))))))
def sm4 (a b : Ev) : Bool := (a.n 22 == b.n 22) && ((a.n 23 == b.n 23) && ((a.n 24 == b.n 24 && a.n 25 == b.n 25) && (a.n 26 == b.n 26)))
def sameE (a b : Ev) : Bool := ((sm1 a b && sm2 a b) && (sm3 a b && sm4 a b)) && decide (a.mem = b.mem)

set_option maxHeartbeats 16000000 in
set_option maxRecDepth 100000 in
theorem sameE_con (a b : Ev) (A6 A27 B6 B27 : Option Addr) (c6 c27 k6 k27 : Nat) (ha : a.nums.length ≤ maxLen ∧ a.mem.length ≤ maxLen) (hb : b.nums.length ≤ maxLen ∧ b.mem.length ≤ maxLen) :
    Con Try.prog 24 #[evV a A6 c6 A27 c27, evV b B6 k6 B27 k27] [] (fun w => EvRd w a A6 A27 ∧ EvRd w b B6 B27) (same (.bool (sameE a b)) []) := by
  refine Con.intro Try.func24 rfl Try.ntmps24 rfl (fun w hR => ?_)
  unfold evV
  repeat (first | refine WC.seq ?_ | refine WC.region ?_)
  refine WL.box _ (evC a.n (.slice A6 a.nums.length c6) (.slice A27 a.mem.length c27)) rfl (by decide) rfl rfl (fun gA => ?_)
  refine WL.box _ (evC b.n (.slice B6 b.nums.length k6) (.slice B27 b.mem.length k27)) rfl (by decide) rfl rfl (fun gB => ?_)
  repeat (first | refine WC.seq ?_ | refine WL.assign _ rfl (by decide) rfl ?_)
  refine WC.draw 16 #[false, false, false, false, false, false, false, false, false, false, false, false, false, false, false, false] [.blk gB (evC b.n (.slice B6 b.nums.length k6) (.slice B27 b.mem.length k27)) 37, .blk gA (evC a.n (.slice A6 a.nums.length c6) (.slice A27 a.mem.length c27)) 37] [] (by kernel_rfl) rfl rfl (by repeat (first | exact List.Sublist.refl _ | exact List.nil_sublist _ | refine List.Sublist.cons_cons _ ?_ | refine List.Sublist.cons _ ?_)) ?_
  refine WA.faddr 0 #[true, false, false, false, false, false, false, false, false, false, false, false, false, false, false, false] _ _ rfl (fa37_1 _ _) rfl rfl (by decide) (by kernel_rfl) (by repeat (first | with_reducible refine Qp.then ?_ | with_reducible refine Qp.blk ?_ | with_reducible exact Qp.body)) ?_
  refine WA.loadA 1 #[true, true, false, false, false, false, false, false, false, false, false, false, false, false, false, false] 1 gA 1 14 _ _ 37 rfl rfl (by decide) (by repeat (first | exact List.Sublist.refl _ | exact List.nil_sublist _ | refine List.Sublist.cons_cons _ ?_ | refine List.Sublist.cons _ ?_)) (by kernel_rfl) (by repeat (first | with_reducible refine Qp.then ?_ | with_reducible refine Qp.blk ?_ | with_reducible exact Qp.body)) rfl agg33 size33 rfl rfl rfl ?_
  refine WA.faddr 2 #[true, true, true, false, false, false, false, false, false, false, false, false, false, false, false, false] _ _ rfl (fa37_1 _ _) rfl rfl (by decide) (by kernel_rfl) (by repeat (first | with_reducible refine Qp.then ?_ | with_reducible refine Qp.blk ?_ | with_reducible exact Qp.body)) ?_
  refine WA.loadA 3 #[true, true, true, true, false, false, false, false, false, false, false, false, false, false, false, false] 0 gB 1 14 _ _ 37 rfl rfl (by decide) (by repeat (first | exact List.Sublist.refl _ | exact List.nil_sublist _ | refine List.Sublist.cons_cons _ ?_ | refine List.Sublist.cons _ ?_)) (by kernel_rfl) (by repeat (first | with_reducible refine Qp.then ?_ | with_reducible refine Qp.blk ?_ | with_reducible exact Qp.body)) rfl agg33 size33 rfl rfl rfl ?_
  refine WA.faddr 4 #[true, true, true, true, true, false, false, false, false, false, false, false, false, false, false, false] _ _ rfl (fa37_2 _ _) rfl rfl (by decide) (by kernel_rfl) (by repeat (first | with_reducible refine Qp.then ?_ | with_reducible refine Qp.blk ?_ | with_reducible exact Qp.body)) ?_
  refine WA.loadA 5 #[true, true, true, true, true, true, false, false, false, false, false, false, false, false, false, false] 1 gA 15 13 _ _ 37 rfl rfl (by decide) (by repeat (first | exact List.Sublist.refl _ | exact List.nil_sublist _ | refine List.Sublist.cons_cons _ ?_ | refine List.Sublist.cons _ ?_)) (by kernel_rfl) (by repeat (first | with_reducible refine Qp.then ?_ | with_reducible refine Qp.blk ?_ | with_reducible exact Qp.body)) rfl agg35 size35 rfl rfl rfl ?_
  refine WA.faddr 6 #[true, true, true, true, true, true, true, false, false, false, false, false, false, false, false, false] _ _ rfl (fa37_2 _ _) rfl rfl (by decide) (by kernel_rfl) (by repeat (first | with_reducible refine Qp.then ?_ | with_reducible refine Qp.blk ?_ | with_reducible exact Qp.body)) ?_
  refine WA.loadA 7 #[true, true, true, true, true, true, true, true, false, false, false, false, false, false, false, false] 0 gB 15 13 _ _ 37 rfl rfl (by decide) (by repeat (first | exact List.Sublist.refl _ | exact List.nil_sublist _ | refine List.Sublist.cons_cons _ ?_ | refine List.Sublist.cons _ ?_)) (by kernel_rfl) (by repeat (first | with_reducible refine Qp.then ?_ | with_reducible refine Qp.blk ?_ | with_reducible exact Qp.body)) rfl agg35 size35 rfl rfl rfl ?_
  refine WA.allocs 4 [⟨8, 5, 33, [.int .i64 0, .int .i64 0, .int .i64 0, .int .i64 0, .bool false, .slice none 0 0, .int .i64 0, .int .i64 0, .int .i64 0, .int .i64 0, .int .i64 0, .int .i64 0, .int .u32 0, .int .u32 0]⟩, ⟨9, 6, 33, [.int .i64 0, .int .i64 0, .int .i64 0, .int .i64 0, .bool false, .slice none 0 0, .int .i64 0, .int .i64 0, .int .i64 0, .int .i64 0, .int .i64 0, .int .i64 0, .int .u32 0, .int .u32 0]⟩, ⟨10, 7, 35, [.int .i64 0, .int .i64 0, .int .i64 0, .int .i64 0, .int .i64 0, .int .i64 0, .int .i64 0, .int .i64 0, .int .i64 0, .int .u32 0, .int .u32 0, .int .u32 0, .slice none 0 0]⟩, ⟨11, 8, 35, [.int .i64 0, .int .i64 0, .int .i64 0, .int .i64 0, .int .i64 0, .int .i64 0, .int .i64 0, .int .i64 0, .int .i64 0, .int .u32 0, .int .u32 0, .int .u32 0, .slice none 0 0]⟩] _ _ #[true, true, true, true, true, true, true, true, true, true, true, true, false, false, false, false] _ _ rfl (by kernel_rfl) (all_cons (alA (.agg #[.int .i64 0, .int .i64 0, .int .i64 0, .int .i64 0, .bool false, .slice none 0 0, .int .i64 0, .int .i64 0, .int .i64 0, .int .i64 0, .int .i64 0, .int .i64 0, .int .u32 0, .int .u32 0]) rfl (by decide) rfl (fun w => by kernel_rfl) rfl) (all_cons (alA (.agg #[.int .i64 0, .int .i64 0, .int .i64 0, .int .i64 0, .bool false, .slice none 0 0, .int .i64 0, .int .i64 0, .int .i64 0, .int .i64 0, .int .i64 0, .int .i64 0, .int .u32 0, .int .u32 0]) rfl (by decide) rfl (fun w => by kernel_rfl) rfl) (all_cons (alA (.agg #[.int .i64 0, .int .i64 0, .int .i64 0, .int .i64 0, .int .i64 0, .int .i64 0, .int .i64 0, .int .i64 0, .int .i64 0, .int .u32 0, .int .u32 0, .int .u32 0, .slice none 0 0]) rfl (by decide) rfl (fun w => by kernel_rfl) rfl) (all_cons (alA (.agg #[.int .i64 0, .int .i64 0, .int .i64 0, .int .i64 0, .int .i64 0, .int .i64 0, .int .i64 0, .int .i64 0, .int .i64 0, .int .u32 0, .int .u32 0, .int .u32 0, .slice none 0 0]) rfl (by decide) rfl (fun w => by kernel_rfl) rfl) all_nil)))) (by decide) (by repeat (first | exact List.Sublist.refl _ | exact List.nil_sublist _ | refine List.Sublist.cons_cons _ ?_ | refine List.Sublist.cons _ ?_)) (fun g => ?_)
  obtain ⟨c1, hc1⟩ : ∃ q, g 5 = q := ⟨_, rfl⟩
  obtain ⟨c2, hc2⟩ : ∃ q, g 6 = q := ⟨_, rfl⟩
  obtain ⟨d1, hd1⟩ : ∃ q, g 7 = q := ⟨_, rfl⟩
  obtain ⟨d2, hd2⟩ : ∃ q, g 8 = q := ⟨_, rfl⟩
  simp only [slA, ckA, List.map_cons, List.map_nil, List.cons_append, List.nil_append, hc1, hc2, hd1, hd2]
  refine WA.storeK 12 #[true, true, true, true, true, true, true, true, true, true, true, true, true, false, false, false] 0 c1 0 _ _ (((evC a.n (.slice A6 a.nums.length c6) (.slice A27 a.mem.length c27)).drop 1).take 14) _ _ rfl rfl (by kernel_rfl) rfl rfl rfl rfl rfl size33 rfl rfl rfl (by repeat (first | exact List.Sublist.refl _ | exact List.nil_sublist _ | refine List.Sublist.cons_cons _ ?_ | refine List.Sublist.cons _ ?_)) ?_
  refine WA.storeK 13 #[true, true, true, true, true, true, true, true, true, true, true, true, true, true, false, false] 1 c2 0 _ _ (((evC b.n (.slice B6 b.nums.length k6) (.slice B27 b.mem.length k27)).drop 1).take 14) _ _ rfl rfl (by kernel_rfl) rfl rfl rfl rfl rfl size33 rfl rfl rfl (by repeat (first | exact List.Sublist.refl _ | exact List.nil_sublist _ | refine List.Sublist.cons_cons _ ?_ | refine List.Sublist.cons _ ?_)) ?_
  refine WA.storeK 14 #[true, true, true, true, true, true, true, true, true, true, true, true, true, true, true, false] 2 d1 0 _ _ (((evC a.n (.slice A6 a.nums.length c6) (.slice A27 a.mem.length c27)).drop 15).take 13) _ _ rfl rfl (by kernel_rfl) rfl rfl rfl rfl rfl size35 rfl rfl rfl (by repeat (first | exact List.Sublist.refl _ | exact List.nil_sublist _ | refine List.Sublist.cons_cons _ ?_ | refine List.Sublist.cons _ ?_)) ?_
  refine WA.storeK 15 #[true, true, true, true, true, true, true, true, true, true, true, true, true, true, true, true] 3 d2 0 _ _ (((evC b.n (.slice B6 b.nums.length k6) (.slice B27 b.mem.length k27)).drop 15).take 13) _ _ rfl rfl (by kernel_rfl) rfl rfl rfl rfl rfl size35 rfl rfl rfl (by repeat (first | exact List.Sublist.refl _ | exact List.nil_sublist _ | refine List.Sublist.cons_cons _ ?_ | refine List.Sublist.cons _ ?_)) ?_
  refine WA.done (by kernel_rfl) ?_
  repeat (with_reducible refine QE.then_n ?_)
  refine WC.perm [.blk gA (evC a.n (.slice A6 a.nums.length c6) (.slice A27 a.mem.length c27)) 37, .blk gB (evC b.n (.slice B6 b.nums.length k6) (.slice B27 b.mem.length k27)) 37, .blk c1 (((evC a.n (.slice A6 a.nums.length c6) (.slice A27 a.mem.length c27)).drop 1).take 14) 33, .blk c2 (((evC b.n (.slice B6 b.nums.length k6) (.slice B27 b.mem.length k27)).drop 1).take 14) 33, .blk d1 (((evC a.n (.slice A6 a.nums.length c6) (.slice A27 a.mem.length c27)).drop 15).take 13) 35, .blk d2 (((evC b.n (.slice B6 b.nums.length k6) (.slice B27 b.mem.length k27)).drop 15).take 13) 35] (permS _ _ _ _ _ _) ?_
  refine WC.cut (σ := Unit) (fun _ => [(9, .bool (sm1 a b)), (5, .pointer (some ⟨c1, 0, none⟩)), (6, .pointer (some ⟨c2, 0, none⟩)), (7, .pointer (some ⟨d1, 0, none⟩)), (8, .pointer (some ⟨d2, 0, none⟩))]) (fun _ => [.blk c1 (((evC a.n (.slice A6 a.nums.length c6) (.slice A27 a.mem.length c27)).drop 1).take 14) 33, .blk c2 (((evC b.n (.slice B6 b.nums.length k6) (.slice B27 b.mem.length k27)).drop 1).take 14) 33, .blk d1 (((evC a.n (.slice A6 a.nums.length c6) (.slice A27 a.mem.length c27)).drop 15).take 13) 35, .blk d2 (((evC b.n (.slice B6 b.nums.length k6) (.slice B27 b.mem.length k27)).drop 15).take 13) 35]) (fun _ => True) ?_ ?_
  · rintro _ _
    refine WC.cut (σ := Unit) (fun _ => [(9, .bool (sm1 a b && sm2 a b)), (7, .pointer (some ⟨d1, 0, none⟩)), (8, .pointer (some ⟨d2, 0, none⟩))]) (fun _ => [.blk d1 (((evC a.n (.slice A6 a.nums.length c6) (.slice A27 a.mem.length c27)).drop 15).take 13) 35, .blk d2 (((evC b.n (.slice B6 b.nums.length k6) (.slice B27 b.mem.length k27)).drop 15).take 13) 35]) (fun _ => True) ?_ ?_
    · rintro _ _
      refine WC.cut (σ := Unit) (fun _ => [(10, .bool (sm3 a b)), (9, .bool (sm1 a b && sm2 a b)), (7, .pointer (some ⟨d1, 0, none⟩)), (8, .pointer (some ⟨d2, 0, none⟩))]) (fun _ => [.blk d1 (((evC a.n (.slice A6 a.nums.length c6) (.slice A27 a.mem.length c27)).drop 15).take 13) 35, .blk d2 (((evC b.n (.slice B6 b.nums.length k6) (.slice B27 b.mem.length k27)).drop 15).take 13) 35]) (fun _ => True) ?_ ?_
      · rintro _ _
        refine WC.cut (σ := Unit) (fun _ => [(10, .bool (sm3 a b && sm4 a b)), (9, .bool (sm1 a b && sm2 a b)), (7, .pointer (some ⟨d1, 0, none⟩)), (8, .pointer (some ⟨d2, 0, none⟩))]) (fun _ => [.blk d1 (((evC a.n (.slice A6 a.nums.length c6) (.slice A27 a.mem.length c27)).drop 15).take 13) 35, .blk d2 (((evC b.n (.slice B6 b.nums.length k6) (.slice B27 b.mem.length k27)).drop 15).take 13) 35]) (fun _ => True) ?_ ?_
        · rintro _ _
          repeat (first | refine WC.seq ?_ | refine WC.region ?_ | refine WL.move _ rfl (by decide) rfl ?_)
          refine WL.split 179 _ rfl (fun h0 => ?_) (fun h0 => ?_)
          · skip
            repeat (first | refine WL.move _ rfl (by decide) rfl ?_ | refine WL.pick _ _ rfl (by decide) rfl rfl ?_)
            refine WL.split 182 _ rfl (fun h1 => ?_) (fun h1 => ?_)
            · skip
              repeat (first | refine WL.fd35_11 rfl (by decide) rfl ?_ | refine WL.ld25 0 rfl (by decide) rfl rfl rfl ?_ | refine WL.ld25 1 rfl (by decide) rfl rfl rfl ?_)
              refine WL.call [] [] [.slice A27 a.mem.length c27, .slice B27 b.mem.length k27] _ [] _ (equal_con A27 B27 c27 k27 a.mem b.mem ha.2 hb.2) rfl (by decide) rfl Try.func63 rfl rfl rfl rfl (.refl _) (fun w hI => ⟨(hR.1.kept hI.kp rfl).2, (hR.2.kept hI.kp rfl).2⟩) ?_
              rintro v H1 ⟨rfl, rfl⟩
              rw [List.nil_append]
              repeat (first | refine WC.ret ?_ | refine WL.assign _ rfl (by decide) rfl ?_ | refine WL.pick _ _ rfl (by decide) rfl rfl ?_)
              refine QE.ret1 _ _ rfl rfl (List.nil_sublist _) ⟨congrArg Value.bool (by unfold sameE; simp only [h0, h1, Bool.true_and, Bool.false_and, Bool.and_true, Bool.and_false]), rfl⟩
            · repeat (first | refine WC.ret ?_ | refine WL.assign _ rfl (by decide) rfl ?_ | refine WL.off rfl (by decide) ?_ | refine WL.pick _ _ rfl (by decide) rfl rfl ?_)
              refine QE.ret1 _ _ rfl rfl (List.nil_sublist _) ⟨congrArg Value.bool (by unfold sameE; simp only [h0, h1, Bool.true_and, Bool.false_and, Bool.and_true, Bool.and_false]), rfl⟩
          · repeat (first | refine WC.ret ?_ | refine WL.move _ rfl (by decide) rfl ?_ | refine WL.assign _ rfl (by decide) rfl ?_ | refine WL.off rfl (by decide) ?_ | refine WL.pick _ _ rfl (by decide) rfl rfl ?_)
            refine QE.ret1 _ _ rfl rfl (List.nil_sublist _) ⟨congrArg Value.bool (by unfold sameE; simp only [h0, Bool.true_and, Bool.false_and, Bool.and_true, Bool.and_false]), rfl⟩
        · skip
          repeat (first | refine WC.region ?_ | refine WL.move _ rfl (by decide) rfl ?_)
          refine WL.split 150 _ rfl (fun h0 => ?_) (fun h0 => ?_)
          · skip
            repeat (first | refine WL.move _ rfl (by decide) rfl ?_ | refine WL.bin _ _ _ rfl (by decide) rfl rfl (fun _ => rfl) ?_ | refine WL.pick _ _ rfl (by decide) rfl rfl ?_ | refine WL.fd35_7 rfl (by decide) rfl ?_ | refine WL.ld3 0 rfl (by decide) rfl rfl rfl ?_ | refine WL.ld3 1 rfl (by decide) rfl rfl rfl ?_)
            refine WL.split 157 _ rfl (fun h1 => ?_) (fun h1 => ?_)
            · skip
              repeat (first | refine WL.move _ rfl (by decide) rfl ?_ | refine WL.bin _ _ _ rfl (by decide) rfl rfl (fun _ => rfl) ?_ | refine WL.pick _ _ rfl (by decide) rfl rfl ?_ | refine WL.fd35_8 rfl (by decide) rfl ?_ | refine WL.ld3 0 rfl (by decide) rfl rfl rfl ?_ | refine WL.ld3 1 rfl (by decide) rfl rfl rfl ?_)
              refine WL.split 164 _ rfl (fun h2 => ?_) (fun h2 => ?_)
              · skip
                repeat (first | refine WL.fd35_9 rfl (by decide) rfl ?_ | refine WL.ld31 0 rfl (by decide) rfl rfl rfl rfl ?_ | refine WL.ld31 1 rfl (by decide) rfl rfl rfl rfl ?_)
                refine WL.bin _ _ _ rfl (by decide) rfl rfl (eq31 _ _ _ _ _ _) ?_
                repeat (first | refine WL.move _ rfl (by decide) rfl ?_ | refine WL.pick _ _ rfl (by decide) rfl rfl ?_)
                refine WL.split 171 _ rfl (fun h3 => ?_) (fun h3 => ?_)
                · skip
                  repeat (first | refine WL.nil ?_ | refine WL.assign _ rfl (by decide) rfl ?_ | refine WL.bin _ _ _ rfl (by decide) rfl rfl (fun _ => rfl) ?_ | refine WL.pick _ _ rfl (by decide) rfl rfl ?_ | refine WL.fd35_10 rfl (by decide) rfl ?_ | refine WL.ld29 0 rfl (by decide) rfl rfl rfl ?_ | refine WL.ld29 1 rfl (by decide) rfl rfl rfl ?_)
                  exact QE.cut () trivial (.eq rfl (congrArg Value.bool (by unfold sm4; simp only [h0, h1, h2, h3, Bool.true_and, Bool.false_and, Bool.and_true, Bool.and_false])) (.cons rfl (.cons rfl (.cons rfl .nil)))) (.refl _)
                · repeat (first | refine WL.nil ?_ | refine WL.assign _ rfl (by decide) rfl ?_ | refine WL.off rfl (by decide) ?_ | refine WL.pick _ _ rfl (by decide) rfl rfl ?_)
                  exact QE.cut () trivial (.eq rfl (congrArg Value.bool (by unfold sm4; simp only [h0, h1, h2, h3, Bool.true_and, Bool.false_and, Bool.and_true, Bool.and_false])) (.cons rfl (.cons rfl (.cons rfl .nil)))) (.refl _)
              · repeat (first | refine WL.nil ?_ | refine WL.move _ rfl (by decide) rfl ?_ | refine WL.assign _ rfl (by decide) rfl ?_ | refine WL.off rfl (by decide) ?_ | refine WL.pick _ _ rfl (by decide) rfl rfl ?_)
                exact QE.cut () trivial (.eq rfl (congrArg Value.bool (by unfold sm4; simp only [h0, h1, h2, Bool.true_and, Bool.false_and, Bool.and_true, Bool.and_false])) (.cons rfl (.cons rfl (.cons rfl .nil)))) (.refl _)
            · repeat (first | refine WL.nil ?_ | refine WL.move _ rfl (by decide) rfl ?_ | refine WL.assign _ rfl (by decide) rfl ?_ | refine WL.off rfl (by decide) ?_ | refine WL.pick _ _ rfl (by decide) rfl rfl ?_)
              exact QE.cut () trivial (.eq rfl (congrArg Value.bool (by unfold sm4; simp only [h0, h1, Bool.true_and, Bool.false_and, Bool.and_true, Bool.and_false])) (.cons rfl (.cons rfl (.cons rfl .nil)))) (.refl _)
          · repeat (first | refine WL.nil ?_ | refine WL.move _ rfl (by decide) rfl ?_ | refine WL.assign _ rfl (by decide) rfl ?_ | refine WL.off rfl (by decide) ?_ | refine WL.pick _ _ rfl (by decide) rfl rfl ?_)
            exact QE.cut () trivial (.eq rfl (congrArg Value.bool (by unfold sm4; simp only [h0, Bool.true_and, Bool.false_and, Bool.and_true, Bool.and_false])) (.cons rfl (.cons rfl (.cons rfl .nil)))) (.refl _)
      · skip
        repeat (first | refine WC.region ?_ | refine WL.move _ rfl (by decide) rfl ?_ | refine WL.bin _ _ _ rfl (by decide) rfl rfl (fun _ => rfl) ?_ | refine WL.fd35_0 rfl (by decide) rfl ?_ | refine WL.ld3 0 rfl (by decide) rfl rfl rfl ?_ | refine WL.ld3 1 rfl (by decide) rfl rfl rfl ?_)
        refine WL.split 107 _ rfl (fun h0 => ?_) (fun h0 => ?_)
        · skip
          repeat (first | refine WL.move _ rfl (by decide) rfl ?_ | refine WL.bin _ _ _ rfl (by decide) rfl rfl (fun _ => rfl) ?_ | refine WL.pick _ _ rfl (by decide) rfl rfl ?_ | refine WL.fd35_1 rfl (by decide) rfl ?_ | refine WL.ld3 0 rfl (by decide) rfl rfl rfl ?_ | refine WL.ld3 1 rfl (by decide) rfl rfl rfl ?_)
          refine WL.split 114 _ rfl (fun h1 => ?_) (fun h1 => ?_)
          · skip
            repeat (first | refine WL.move _ rfl (by decide) rfl ?_ | refine WL.bin _ _ _ rfl (by decide) rfl rfl (fun _ => rfl) ?_ | refine WL.pick _ _ rfl (by decide) rfl rfl ?_ | refine WL.fd35_2 rfl (by decide) rfl ?_ | refine WL.ld3 0 rfl (by decide) rfl rfl rfl ?_ | refine WL.ld3 1 rfl (by decide) rfl rfl rfl ?_)
            refine WL.split 121 _ rfl (fun h2 => ?_) (fun h2 => ?_)
            · skip
              repeat (first | refine WL.move _ rfl (by decide) rfl ?_ | refine WL.bin _ _ _ rfl (by decide) rfl rfl (fun _ => rfl) ?_ | refine WL.pick _ _ rfl (by decide) rfl rfl ?_ | refine WL.fd35_3 rfl (by decide) rfl ?_ | refine WL.ld3 0 rfl (by decide) rfl rfl rfl ?_ | refine WL.ld3 1 rfl (by decide) rfl rfl rfl ?_)
              refine WL.split 128 _ rfl (fun h3 => ?_) (fun h3 => ?_)
              · skip
                repeat (first | refine WL.move _ rfl (by decide) rfl ?_ | refine WL.bin _ _ _ rfl (by decide) rfl rfl (fun _ => rfl) ?_ | refine WL.pick _ _ rfl (by decide) rfl rfl ?_ | refine WL.fd35_4 rfl (by decide) rfl ?_ | refine WL.ld3 0 rfl (by decide) rfl rfl rfl ?_ | refine WL.ld3 1 rfl (by decide) rfl rfl rfl ?_)
                refine WL.split 135 _ rfl (fun h4 => ?_) (fun h4 => ?_)
                · skip
                  repeat (first | refine WL.move _ rfl (by decide) rfl ?_ | refine WL.bin _ _ _ rfl (by decide) rfl rfl (fun _ => rfl) ?_ | refine WL.pick _ _ rfl (by decide) rfl rfl ?_ | refine WL.fd35_5 rfl (by decide) rfl ?_ | refine WL.ld3 0 rfl (by decide) rfl rfl rfl ?_ | refine WL.ld3 1 rfl (by decide) rfl rfl rfl ?_)
                  refine WL.split 142 _ rfl (fun h5 => ?_) (fun h5 => ?_)
                  · skip
                    repeat (first | refine WL.nil ?_ | refine WL.assign _ rfl (by decide) rfl ?_ | refine WL.bin _ _ _ rfl (by decide) rfl rfl (fun _ => rfl) ?_ | refine WL.pick _ _ rfl (by decide) rfl rfl ?_ | refine WL.fd35_6 rfl (by decide) rfl ?_ | refine WL.ld3 0 rfl (by decide) rfl rfl rfl ?_ | refine WL.ld3 1 rfl (by decide) rfl rfl rfl ?_)
                    exact QE.cut () trivial (.eq rfl (congrArg Value.bool (by unfold sm3; simp only [h0, h1, h2, h3, h4, h5, Bool.true_and, Bool.false_and, Bool.and_true, Bool.and_false])) (.cons rfl (.cons rfl (.cons rfl .nil)))) (.refl _)
                  · repeat (first | refine WL.nil ?_ | refine WL.assign _ rfl (by decide) rfl ?_ | refine WL.off rfl (by decide) ?_ | refine WL.pick _ _ rfl (by decide) rfl rfl ?_)
                    exact QE.cut () trivial (.eq rfl (congrArg Value.bool (by unfold sm3; simp only [h0, h1, h2, h3, h4, h5, Bool.true_and, Bool.false_and, Bool.and_true, Bool.and_false])) (.cons rfl (.cons rfl (.cons rfl .nil)))) (.refl _)
                · repeat (first | refine WL.nil ?_ | refine WL.move _ rfl (by decide) rfl ?_ | refine WL.assign _ rfl (by decide) rfl ?_ | refine WL.off rfl (by decide) ?_ | refine WL.pick _ _ rfl (by decide) rfl rfl ?_)
                  exact QE.cut () trivial (.eq rfl (congrArg Value.bool (by unfold sm3; simp only [h0, h1, h2, h3, h4, Bool.true_and, Bool.false_and, Bool.and_true, Bool.and_false])) (.cons rfl (.cons rfl (.cons rfl .nil)))) (.refl _)
              · repeat (first | refine WL.nil ?_ | refine WL.move _ rfl (by decide) rfl ?_ | refine WL.assign _ rfl (by decide) rfl ?_ | refine WL.off rfl (by decide) ?_ | refine WL.pick _ _ rfl (by decide) rfl rfl ?_)
                exact QE.cut () trivial (.eq rfl (congrArg Value.bool (by unfold sm3; simp only [h0, h1, h2, h3, Bool.true_and, Bool.false_and, Bool.and_true, Bool.and_false])) (.cons rfl (.cons rfl (.cons rfl .nil)))) (.refl _)
            · repeat (first | refine WL.nil ?_ | refine WL.move _ rfl (by decide) rfl ?_ | refine WL.assign _ rfl (by decide) rfl ?_ | refine WL.off rfl (by decide) ?_ | refine WL.pick _ _ rfl (by decide) rfl rfl ?_)
              exact QE.cut () trivial (.eq rfl (congrArg Value.bool (by unfold sm3; simp only [h0, h1, h2, Bool.true_and, Bool.false_and, Bool.and_true, Bool.and_false])) (.cons rfl (.cons rfl (.cons rfl .nil)))) (.refl _)
          · repeat (first | refine WL.nil ?_ | refine WL.move _ rfl (by decide) rfl ?_ | refine WL.assign _ rfl (by decide) rfl ?_ | refine WL.off rfl (by decide) ?_ | refine WL.pick _ _ rfl (by decide) rfl rfl ?_)
            exact QE.cut () trivial (.eq rfl (congrArg Value.bool (by unfold sm3; simp only [h0, h1, Bool.true_and, Bool.false_and, Bool.and_true, Bool.and_false])) (.cons rfl (.cons rfl (.cons rfl .nil)))) (.refl _)
        · repeat (first | refine WL.nil ?_ | refine WL.move _ rfl (by decide) rfl ?_ | refine WL.assign _ rfl (by decide) rfl ?_ | refine WL.off rfl (by decide) ?_ | refine WL.pick _ _ rfl (by decide) rfl rfl ?_)
          exact QE.cut () trivial (.eq rfl (congrArg Value.bool (by unfold sm3; simp only [h0, Bool.true_and, Bool.false_and, Bool.and_true, Bool.and_false])) (.cons rfl (.cons rfl (.cons rfl .nil)))) (.refl _)
    · skip
      repeat (first | refine WC.region ?_ | refine WL.move _ rfl (by decide) rfl ?_)
      refine WL.split 67 _ rfl (fun h0 => ?_) (fun h0 => ?_)
      · skip
        repeat (first | refine WL.move _ rfl (by decide) rfl ?_ | refine WL.bin _ _ _ rfl (by decide) rfl rfl (fun _ => rfl) ?_ | refine WL.pick _ _ rfl (by decide) rfl rfl ?_ | refine WL.fd33_6 rfl (by decide) rfl ?_ | refine WL.ld2 0 rfl (by decide) rfl rfl rfl ?_ | refine WL.ld2 1 rfl (by decide) rfl rfl rfl ?_)
        refine WL.split 74 _ rfl (fun h1 => ?_) (fun h1 => ?_)
        · skip
          repeat (first | refine WL.move _ rfl (by decide) rfl ?_ | refine WL.bin _ _ _ rfl (by decide) rfl rfl (fun _ => rfl) ?_ | refine WL.pick _ _ rfl (by decide) rfl rfl ?_ | refine WL.fd33_7 rfl (by decide) rfl ?_ | refine WL.ld2 0 rfl (by decide) rfl rfl rfl ?_ | refine WL.ld2 1 rfl (by decide) rfl rfl rfl ?_)
          refine WL.split 81 _ rfl (fun h2 => ?_) (fun h2 => ?_)
          · skip
            repeat (first | refine WL.fd33_8 rfl (by decide) rfl ?_ | refine WL.ld27 0 rfl (by decide) rfl rfl rfl rfl ?_ | refine WL.ld27 1 rfl (by decide) rfl rfl rfl rfl ?_)
            refine WL.bin _ _ _ rfl (by decide) rfl rfl (eq27 _ _ _ _ _ _ _ _ _ _) ?_
            repeat (first | refine WL.move _ rfl (by decide) rfl ?_ | refine WL.pick _ _ rfl (by decide) rfl rfl ?_)
            refine WL.split 88 _ rfl (fun h3 => ?_) (fun h3 => ?_)
            · skip
              repeat (first | refine WL.fd33_9 rfl (by decide) rfl ?_ | refine WL.ld31 0 rfl (by decide) rfl rfl rfl rfl ?_ | refine WL.ld31 1 rfl (by decide) rfl rfl rfl rfl ?_)
              refine WL.bin _ _ _ rfl (by decide) rfl rfl (eq31 _ _ _ _ _ _) ?_
              repeat (first | refine WL.move _ rfl (by decide) rfl ?_ | refine WL.pick _ _ rfl (by decide) rfl rfl ?_)
              refine WL.split 95 _ rfl (fun h4 => ?_) (fun h4 => ?_)
              · skip
                repeat (first | refine WL.fd33_5 rfl (by decide) rfl ?_ | refine WL.ld25 0 rfl (by decide) rfl rfl rfl ?_ | refine WL.ld25 1 rfl (by decide) rfl rfl rfl ?_)
                refine WL.call [] [] [.slice A6 a.nums.length c6, .slice B6 b.nums.length k6] _ [] _ (equal_con A6 B6 c6 k6 a.nums b.nums ha.1 hb.1) rfl (by decide) rfl Try.func63 rfl rfl rfl rfl (.refl _) (fun w hI => ⟨(hR.1.kept hI.kp rfl).1, (hR.2.kept hI.kp rfl).1⟩) ?_
                rintro v H1 ⟨rfl, rfl⟩
                rw [List.nil_append]
                repeat (first | refine WL.nil ?_ | refine WL.assign _ rfl (by decide) rfl ?_ | refine WL.pick _ _ rfl (by decide) rfl rfl ?_)
                exact QE.cut () trivial (.eq rfl (congrArg Value.bool (by unfold sm2; simp only [h0, h1, h2, h3, h4, Bool.true_and, Bool.false_and, Bool.and_true, Bool.and_false])) (.cons rfl (.cons rfl .nil))) (.cons _ (.cons _ (.refl _)))
              · repeat (first | refine WL.nil ?_ | refine WL.assign _ rfl (by decide) rfl ?_ | refine WL.off rfl (by decide) ?_ | refine WL.pick _ _ rfl (by decide) rfl rfl ?_)
                exact QE.cut () trivial (.eq rfl (congrArg Value.bool (by unfold sm2; simp only [h0, h1, h2, h3, h4, Bool.true_and, Bool.false_and, Bool.and_true, Bool.and_false])) (.cons rfl (.cons rfl .nil))) (.cons _ (.cons _ (.refl _)))
            · repeat (first | refine WL.nil ?_ | refine WL.move _ rfl (by decide) rfl ?_ | refine WL.assign _ rfl (by decide) rfl ?_ | refine WL.off rfl (by decide) ?_ | refine WL.pick _ _ rfl (by decide) rfl rfl ?_)
              exact QE.cut () trivial (.eq rfl (congrArg Value.bool (by unfold sm2; simp only [h0, h1, h2, h3, Bool.true_and, Bool.false_and, Bool.and_true, Bool.and_false])) (.cons rfl (.cons rfl .nil))) (.cons _ (.cons _ (.refl _)))
          · repeat (first | refine WL.nil ?_ | refine WL.move _ rfl (by decide) rfl ?_ | refine WL.assign _ rfl (by decide) rfl ?_ | refine WL.off rfl (by decide) ?_ | refine WL.pick _ _ rfl (by decide) rfl rfl ?_)
            exact QE.cut () trivial (.eq rfl (congrArg Value.bool (by unfold sm2; simp only [h0, h1, h2, Bool.true_and, Bool.false_and, Bool.and_true, Bool.and_false])) (.cons rfl (.cons rfl .nil))) (.cons _ (.cons _ (.refl _)))
        · repeat (first | refine WL.nil ?_ | refine WL.move _ rfl (by decide) rfl ?_ | refine WL.assign _ rfl (by decide) rfl ?_ | refine WL.off rfl (by decide) ?_ | refine WL.pick _ _ rfl (by decide) rfl rfl ?_)
          exact QE.cut () trivial (.eq rfl (congrArg Value.bool (by unfold sm2; simp only [h0, h1, Bool.true_and, Bool.false_and, Bool.and_true, Bool.and_false])) (.cons rfl (.cons rfl .nil))) (.cons _ (.cons _ (.refl _)))
      · repeat (first | refine WL.nil ?_ | refine WL.move _ rfl (by decide) rfl ?_ | refine WL.assign _ rfl (by decide) rfl ?_ | refine WL.off rfl (by decide) ?_ | refine WL.pick _ _ rfl (by decide) rfl rfl ?_)
        exact QE.cut () trivial (.eq rfl (congrArg Value.bool (by unfold sm2; simp only [h0, Bool.true_and, Bool.false_and, Bool.and_true, Bool.and_false])) (.cons rfl (.cons rfl .nil))) (.cons _ (.cons _ (.refl _)))
  · skip
    repeat (first | refine WC.region ?_ | refine WL.move _ rfl (by decide) rfl ?_ | refine WL.bin _ _ _ rfl (by decide) rfl rfl (fun _ => rfl) ?_ | refine WL.fd37_0 rfl (by decide) rfl ?_ | refine WL.ld3 0 rfl (by decide) rfl rfl rfl ?_ | refine WL.ld3 1 rfl (by decide) rfl rfl rfl ?_)
    refine WL.split 24 _ rfl (fun h0 => ?_) (fun h0 => ?_)
    · skip
      repeat (first | refine WL.move _ rfl (by decide) rfl ?_ | refine WL.bin _ _ _ rfl (by decide) rfl rfl (fun _ => rfl) ?_ | refine WL.pick _ _ rfl (by decide) rfl rfl ?_ | refine WL.fd37_3 rfl (by decide) rfl ?_ | refine WL.ld2 0 rfl (by decide) rfl rfl rfl ?_ | refine WL.ld2 1 rfl (by decide) rfl rfl rfl ?_)
      refine WL.split 31 _ rfl (fun h1 => ?_) (fun h1 => ?_)
      · skip
        repeat (first | refine WL.move _ rfl (by decide) rfl ?_ | refine WL.bin _ _ _ rfl (by decide) rfl rfl (fun _ => rfl) ?_ | refine WL.pick _ _ rfl (by decide) rfl rfl ?_ | refine WL.fd33_0 rfl (by decide) rfl ?_ | refine WL.ld3 2 rfl (by decide) rfl rfl rfl ?_ | refine WL.ld3 3 rfl (by decide) rfl rfl rfl ?_)
        refine WL.split 38 _ rfl (fun h2 => ?_) (fun h2 => ?_)
        · skip
          repeat (first | refine WL.move _ rfl (by decide) rfl ?_ | refine WL.bin _ _ _ rfl (by decide) rfl rfl (fun _ => rfl) ?_ | refine WL.pick _ _ rfl (by decide) rfl rfl ?_ | refine WL.fd33_1 rfl (by decide) rfl ?_ | refine WL.ld3 2 rfl (by decide) rfl rfl rfl ?_ | refine WL.ld3 3 rfl (by decide) rfl rfl rfl ?_)
          refine WL.split 45 _ rfl (fun h3 => ?_) (fun h3 => ?_)
          · skip
            repeat (first | refine WL.move _ rfl (by decide) rfl ?_ | refine WL.bin _ _ _ rfl (by decide) rfl rfl (fun _ => rfl) ?_ | refine WL.pick _ _ rfl (by decide) rfl rfl ?_ | refine WL.fd33_2 rfl (by decide) rfl ?_ | refine WL.ld3 2 rfl (by decide) rfl rfl rfl ?_ | refine WL.ld3 3 rfl (by decide) rfl rfl rfl ?_)
            refine WL.split 52 _ rfl (fun h4 => ?_) (fun h4 => ?_)
            · skip
              repeat (first | refine WL.move _ rfl (by decide) rfl ?_ | refine WL.bin _ _ _ rfl (by decide) rfl rfl (fun _ => rfl) ?_ | refine WL.pick _ _ rfl (by decide) rfl rfl ?_ | refine WL.fd33_3 rfl (by decide) rfl ?_ | refine WL.ld3 2 rfl (by decide) rfl rfl rfl ?_ | refine WL.ld3 3 rfl (by decide) rfl rfl rfl ?_)
              refine WL.split 59 _ rfl (fun h5 => ?_) (fun h5 => ?_)
              · skip
                repeat (first | refine WL.nil ?_ | refine WL.assign _ rfl (by decide) rfl ?_ | refine WL.bin _ _ _ rfl (by decide) rfl rfl (fun _ => rfl) ?_ | refine WL.pick _ _ rfl (by decide) rfl rfl ?_ | refine WL.fd33_4 rfl (by decide) rfl ?_ | refine WL.ld4 2 rfl (by decide) rfl rfl rfl ?_ | refine WL.ld4 3 rfl (by decide) rfl rfl rfl ?_)
                exact QE.cut () trivial (.eq rfl (congrArg Value.bool (by unfold sm1; simp only [h0, h1, h2, h3, h4, h5, Bool.true_and, Bool.false_and, Bool.and_true, Bool.and_false])) (.cons rfl (.cons rfl (.cons rfl (.cons rfl .nil))))) (.cons _ (.cons _ (.refl _)))
              · repeat (first | refine WL.nil ?_ | refine WL.assign _ rfl (by decide) rfl ?_ | refine WL.off rfl (by decide) ?_ | refine WL.pick _ _ rfl (by decide) rfl rfl ?_)
                exact QE.cut () trivial (.eq rfl (congrArg Value.bool (by unfold sm1; simp only [h0, h1, h2, h3, h4, h5, Bool.true_and, Bool.false_and, Bool.and_true, Bool.and_false])) (.cons rfl (.cons rfl (.cons rfl (.cons rfl .nil))))) (.cons _ (.cons _ (.refl _)))
            · repeat (first | refine WL.nil ?_ | refine WL.move _ rfl (by decide) rfl ?_ | refine WL.assign _ rfl (by decide) rfl ?_ | refine WL.off rfl (by decide) ?_ | refine WL.pick _ _ rfl (by decide) rfl rfl ?_)
              exact QE.cut () trivial (.eq rfl (congrArg Value.bool (by unfold sm1; simp only [h0, h1, h2, h3, h4, Bool.true_and, Bool.false_and, Bool.and_true, Bool.and_false])) (.cons rfl (.cons rfl (.cons rfl (.cons rfl .nil))))) (.cons _ (.cons _ (.refl _)))
          · repeat (first | refine WL.nil ?_ | refine WL.move _ rfl (by decide) rfl ?_ | refine WL.assign _ rfl (by decide) rfl ?_ | refine WL.off rfl (by decide) ?_ | refine WL.pick _ _ rfl (by decide) rfl rfl ?_)
            exact QE.cut () trivial (.eq rfl (congrArg Value.bool (by unfold sm1; simp only [h0, h1, h2, h3, Bool.true_and, Bool.false_and, Bool.and_true, Bool.and_false])) (.cons rfl (.cons rfl (.cons rfl (.cons rfl .nil))))) (.cons _ (.cons _ (.refl _)))
        · repeat (first | refine WL.nil ?_ | refine WL.move _ rfl (by decide) rfl ?_ | refine WL.assign _ rfl (by decide) rfl ?_ | refine WL.off rfl (by decide) ?_ | refine WL.pick _ _ rfl (by decide) rfl rfl ?_)
          exact QE.cut () trivial (.eq rfl (congrArg Value.bool (by unfold sm1; simp only [h0, h1, h2, Bool.true_and, Bool.false_and, Bool.and_true, Bool.and_false])) (.cons rfl (.cons rfl (.cons rfl (.cons rfl .nil))))) (.cons _ (.cons _ (.refl _)))
      · repeat (first | refine WL.nil ?_ | refine WL.move _ rfl (by decide) rfl ?_ | refine WL.assign _ rfl (by decide) rfl ?_ | refine WL.off rfl (by decide) ?_ | refine WL.pick _ _ rfl (by decide) rfl rfl ?_)
        exact QE.cut () trivial (.eq rfl (congrArg Value.bool (by unfold sm1; simp only [h0, h1, Bool.true_and, Bool.false_and, Bool.and_true, Bool.and_false])) (.cons rfl (.cons rfl (.cons rfl (.cons rfl .nil))))) (.cons _ (.cons _ (.refl _)))
    · repeat (first | refine WL.nil ?_ | refine WL.move _ rfl (by decide) rfl ?_ | refine WL.assign _ rfl (by decide) rfl ?_ | refine WL.off rfl (by decide) ?_ | refine WL.pick _ _ rfl (by decide) rfl rfl ?_)
      exact QE.cut () trivial (.eq rfl (congrArg Value.bool (by unfold sm1; simp only [h0, Bool.true_and, Bool.false_and, Bool.and_true, Bool.and_false])) (.cons rfl (.cons rfl (.cons rfl (.cons rfl .nil))))) (.cons _ (.cons _ (.refl _)))
end Go.Proofs.Ytalafklnnohlgaa.Cod
