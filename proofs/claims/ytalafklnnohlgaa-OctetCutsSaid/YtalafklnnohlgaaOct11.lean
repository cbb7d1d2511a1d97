/- The reference's Number and Step. Condition: the bytes are bytes. -/
import Derived.Test.YtalafklnnohlgaaOct10
import Derived.Test.YtalafklnnohlgaaX10
namespace Go.Proofs.Ytalafklnnohlgaa.Oct
open Go.RowKit X Go.Proofs.YtalafklnnohlgaaW.PrintLast
set_option linter.unusedVariables false

theorem beU_snoc (d : List Int) (b : Int) : beU (d ++ [b]) = stepU (beU d) b := by simp [beU]
theorem stepU_eq {a b : Int} (ha : 0 ≤ a) (hb : 0 ≤ b) (h : a * 256 + b < 18446744073709551616) : stepU a b = a * 256 + b := by
  unfold stepU
  rw [wr_u64 (x := a * 256) (by omega) (by omega), wr_u64 (x := b) hb (by omega), wr_u64 (by omega) h]
def Byt (d : List Int) : Prop := ∀ u ∈ d, 0 ≤ u ∧ u < 256
theorem beU_lt : ∀ (n : Nat) (d : List Int), d.length = n → n ≤ 8 → Byt d → beU d < 256 ^ n
  | 0, d, h, _, _ => by obtain rfl := List.eq_nil_of_length_eq_zero h; decide
  | n + 1, d, h, h8, hb => by
    have hne : d ≠ [] := by rintro rfl; simp at h
    have e := List.dropLast_concat_getLast hne
    have hl : d.dropLast.length = n := by simp [h]
    have ih := beU_lt n d.dropLast hl (by omega) (fun u hu => hb u (List.dropLast_subset d hu))
    have h0 := (beU_rg d.dropLast).1
    obtain ⟨hb0, hb1⟩ := hb _ (List.getLast_mem hne)
    rw [← e, beU_snoc]
    have hp : (256 : Int) ^ n ≤ 72057594037927936 := by
      have : n = 0 ∨ n = 1 ∨ n = 2 ∨ n = 3 ∨ n = 4 ∨ n = 5 ∨ n = 6 ∨ n = 7 := by omega
      rcases this with rfl | rfl | rfl | rfl | rfl | rfl | rfl | rfl <;> decide
    rw [stepU_eq h0 hb0 (by omega), Int.pow_succ]
    omega

set_option maxRecDepth 100000 in
theorem num_con : ∀ (n : Nat) (A : Option Addr) (c : Nat) (b : List Int), b.length = n → b.length ≤ c → n ≤ 140737488355328 →
    Con Try.prog 43 #[.slice A b.length c] [] (fun w => Rds w A b.length 1 (b8 b)) (same (.int .u64 (beU b)) [])
  | 0, A, c, b, hb, hc, hn => by
    obtain rfl := List.eq_nil_of_length_eq_zero hb
    refine Con.intro Try.func43 rfl Try.ntmps43 rfl (fun w hR => ?_)
    repeat (first | refine WC.seq ?_ | refine WC.region ?_ | refine WC.block ?_ | refine WC.skip ?_ | refine WC.exit ?_ | refine WC.ret ?_ | refine WL.nil ?_ | with_reducible refine QE.then_n ?_ | with_reducible refine QE.then_e ?_ | with_reducible refine QE.then_r ?_ | with_reducible refine QE.blk_hit ?_ | refine QE.blk_miss rfl ?_ | with_reducible refine QE.blk_n ?_ | with_reducible refine QE.blk_r ?_ | refine WC.cond_t rfl ?_ | refine WC.cond_f rfl ?_ | refine WL.move _ rfl (by decide) rfl ?_ | refine WL.assign _ rfl (by decide) rfl ?_ | refine WL.bin _ _ _ rfl (by decide) rfl rfl (fun _ => rfl) ?_ | refine WL.un _ _ rfl (by decide) rfl (fun _ => rfl) ?_ | refine WL.nilc _ rfl (by decide) rfl ?_ | refine WL.off rfl (by decide) ?_ | refine WL.extract _ _ rfl (by decide) rfl (fun _ => rfl) ?_ | refine WL.pick _ _ rfl (by decide) rfl rfl ?_ | refine WL.cv5_53 rfl (by decide) rfl ?_ | refine WL.ln39 rfl (by decide) rfl ?_ | refine WL.ld5 0 rfl (by decide) rfl rfl rfl ?_ | refine WL.ld5 1 rfl (by decide) rfl rfl rfl ?_ | refine WL.ld5 2 rfl (by decide) rfl rfl rfl ?_ | refine WL.ld5 3 rfl (by decide) rfl rfl rfl ?_)
    exact QE.ret1 _ _ rfl rfl (.refl _) ⟨rfl, rfl⟩
  | n + 1, A, c, b, hb, hc, hn => by
    have hne : b ≠ [] := by rintro rfl; simp at hb
    obtain ⟨d, u, rfl⟩ : ∃ d u, b = d ++ [u] := ⟨_, _, (List.dropLast_concat_getLast hne).symm⟩
    have hd : d.length = n := by simpa using hb
    have hl : (d ++ [u]).length = d.length + 1 := by simp
    rw [beU_snoc]
    refine Con.intro Try.func43 rfl Try.ntmps43 rfl (fun w hR => ?_)
    repeat (first | refine WC.seq ?_ | refine WC.region ?_ | refine WC.block ?_ | refine WC.skip ?_ | refine WC.exit ?_ | refine WC.ret ?_ | refine WL.nil ?_ | with_reducible refine QE.then_n ?_ | with_reducible refine QE.then_e ?_ | with_reducible refine QE.then_r ?_ | with_reducible refine QE.blk_hit ?_ | refine QE.blk_miss rfl ?_ | with_reducible refine QE.blk_n ?_ | with_reducible refine QE.blk_r ?_ | refine WC.cond_t rfl ?_ | refine WC.cond_f rfl ?_ | refine WL.move _ rfl (by decide) rfl ?_ | refine WL.assign _ rfl (by decide) rfl ?_ | refine WL.bin _ _ _ rfl (by decide) rfl rfl (fun _ => rfl) ?_ | refine WL.un _ _ rfl (by decide) rfl (fun _ => rfl) ?_ | refine WL.nilc _ rfl (by decide) rfl ?_ | refine WL.off rfl (by decide) ?_ | refine WL.extract _ _ rfl (by decide) rfl (fun _ => rfl) ?_ | refine WL.pick _ _ rfl (by decide) rfl rfl ?_ | refine WL.cv5_53 rfl (by decide) rfl ?_ | refine WL.ln39 rfl (by decide) rfl ?_ | refine WL.ld5 0 rfl (by decide) rfl rfl rfl ?_ | refine WL.ld5 1 rfl (by decide) rfl rfl rfl ?_ | refine WL.ld5 2 rfl (by decide) rfl rfl rfl ?_ | refine WL.ld5 3 rfl (by decide) rfl rfl rfl ?_)
    refine WC.cond _ rfl (fun h => ?_) (fun h => ?_)
    · rw [hl] at h; simp at h; omega
    repeat (first | refine WC.seq ?_ | refine WC.region ?_ | refine WC.block ?_ | refine WC.skip ?_ | refine WC.exit ?_ | refine WC.ret ?_ | refine WL.nil ?_ | with_reducible refine QE.then_n ?_ | with_reducible refine QE.then_e ?_ | with_reducible refine QE.then_r ?_ | with_reducible refine QE.blk_hit ?_ | refine QE.blk_miss rfl ?_ | with_reducible refine QE.blk_n ?_ | with_reducible refine QE.blk_r ?_ | refine WC.cond_t rfl ?_ | refine WC.cond_f rfl ?_ | refine WL.move _ rfl (by decide) rfl ?_ | refine WL.assign _ rfl (by decide) rfl ?_ | refine WL.bin _ _ _ rfl (by decide) rfl rfl (fun _ => rfl) ?_ | refine WL.un _ _ rfl (by decide) rfl (fun _ => rfl) ?_ | refine WL.nilc _ rfl (by decide) rfl ?_ | refine WL.off rfl (by decide) ?_ | refine WL.extract _ _ rfl (by decide) rfl (fun _ => rfl) ?_ | refine WL.pick _ _ rfl (by decide) rfl rfl ?_ | refine WL.cv5_53 rfl (by decide) rfl ?_ | refine WL.ln39 rfl (by decide) rfl ?_ | refine WL.ld5 0 rfl (by decide) rfl rfl rfl ?_ | refine WL.ld5 1 rfl (by decide) rfl rfl rfl ?_ | refine WL.ld5 2 rfl (by decide) rfl rfl rfl ?_ | refine WL.ld5 3 rfl (by decide) rfl rfl rfl ?_)
    have hA : ∃ ad, A = some ad := by
      cases A with
      | none => have := hR.nil rfl; omega
      | some ad => exact ⟨ad, rfl⟩
    obtain ⟨ad, rfl⟩ := hA
    refine WC.draw 16 #[false, false, false, false, false, false, false, false, false, false, false, false, false, false, false, false] [] [] (by kernel_rfl) rfl rfl (by repeat (first | exact List.Sublist.refl _ | exact List.nil_sublist _ | refine List.Sublist.cons_cons _ ?_ | refine List.Sublist.cons _ ?_)) ?_
    refine WA.move 0 #[true, false, false, false, false, false, false, false, false, false, false, false, false, false, false, false] _ rfl rfl rfl (by decide) (by kernel_rfl) (by repeat (first | with_reducible refine Qp.then ?_ | with_reducible refine Qp.blk ?_ | with_reducible exact Qp.body)) ?_
    refine WA.move 1 #[true, true, false, false, false, false, false, false, false, false, false, false, false, false, false, false] _ rfl rfl rfl (by decide) (by kernel_rfl) (by repeat (first | with_reducible refine Qp.then ?_ | with_reducible refine Qp.blk ?_ | with_reducible exact Qp.body)) ?_
    refine WA.len 2 #[true, true, true, false, false, false, false, false, false, false, false, false, false, false, false, false] _ _ _ _ Try.underlying39 rfl rfl rfl (by decide) (by kernel_rfl) (by repeat (first | with_reducible refine Qp.then ?_ | with_reducible refine Qp.blk ?_ | with_reducible exact Qp.body)) ?_
    refine WA.bin 3 #[true, true, true, true, false, false, false, false, false, false, false, false, false, false, false, false] _ _ _ rfl rfl (fun _ => rfl) rfl rfl (by decide) (by kernel_rfl) (by repeat (first | with_reducible refine Qp.then ?_ | with_reducible refine Qp.blk ?_ | with_reducible exact Qp.body)) ?_
    refine WA.know (.int .i64 d.length) (s := 9) rfl (congrArg _ (by rw [hl, wr_i64 (by omega) (by omega)]; simp)) ?_
    refine WA.cuth 4 #[true, true, true, true, true, false, false, false, false, false, false, false, false, false, false, false] (some ad) _ c d.length .i64 Try.underlying39 size5 (by omega) rfl rfl rfl rfl (by decide) (by kernel_rfl) (by repeat (first | with_reducible refine Qp.then ?_ | with_reducible refine Qp.blk ?_ | with_reducible exact Qp.body)) ?_
    refine WA.move 7 #[true, true, true, true, true, false, false, true, false, false, false, false, false, false, false, false] _ rfl rfl rfl (by decide) (by kernel_rfl) (by repeat (first | with_reducible refine Qp.then ?_ | with_reducible refine Qp.blk ?_ | with_reducible exact Qp.body)) ?_
    refine WA.move 8 #[true, true, true, true, true, false, false, true, true, false, false, false, false, false, false, false] _ rfl rfl rfl (by decide) (by kernel_rfl) (by repeat (first | with_reducible refine Qp.then ?_ | with_reducible refine Qp.blk ?_ | with_reducible exact Qp.body)) ?_
    refine WA.len 9 #[true, true, true, true, true, false, false, true, true, true, false, false, false, false, false, false] _ _ _ _ Try.underlying39 rfl rfl rfl (by decide) (by kernel_rfl) (by repeat (first | with_reducible refine Qp.then ?_ | with_reducible refine Qp.blk ?_ | with_reducible exact Qp.body)) ?_
    refine WA.bin 10 #[true, true, true, true, true, false, false, true, true, true, true, false, false, false, false, false] _ _ _ rfl rfl (fun _ => rfl) rfl rfl (by decide) (by kernel_rfl) (by repeat (first | with_reducible refine Qp.then ?_ | with_reducible refine Qp.blk ?_ | with_reducible exact Qp.body)) ?_
    refine WA.know (.int .i64 d.length) (s := 16) rfl (congrArg _ (by rw [hl, wr_i64 (by omega) (by omega)]; simp)) ?_
    refine WA.idx 11 #[true, true, true, true, true, false, false, true, true, true, true, true, false, false, false, false] 5 1 (d ++ [u]).length c .i64 ad (d.length : Int) Try.underlying39 size5 (by omega) (by rw [hl]; omega) rfl rfl rfl rfl (by decide) (by kernel_rfl) (by repeat (first | with_reducible refine Qp.then ?_ | with_reducible refine Qp.blk ?_ | with_reducible exact Qp.body)) ?_
    refine WA.load1 12 #[true, true, true, true, true, false, false, true, true, true, true, true, true, false, false, false] (ad.add ((d.length : Int).toNat * 1)) (.int .u8 u) rfl rfl (by decide) (List.nil_sublist _) (by kernel_rfl) (by repeat (first | with_reducible refine Qp.then ?_ | with_reducible refine Qp.blk ?_ | with_reducible exact Qp.body)) rfl agg5 (fun w hS => (kept0 hR hS.2 rfl).cell rfl (b8_at (by simp))) ?_
    refine WA.conv 13 #[true, true, true, true, true, false, false, true, true, true, true, true, true, true, false, false] _ _ rfl (run_conv _ _ _ Try.underlying5 Try.underlying53) rfl rfl (by decide) (by kernel_rfl) (by repeat (first | with_reducible refine Qp.then ?_ | with_reducible refine Qp.blk ?_ | with_reducible exact Qp.body)) ?_
    refine WA.call 5 #[true, true, true, true, true, true, false, true, true, true, true, true, true, true, false, false] [] [] [.slice (some ad) d.length c] _ [] _ (num_con n (some ad) c d hd (by omega) (by omega)) rfl rfl (by decide) (by kernel_rfl) rfl rfl Try.func43 rfl rfl rfl rfl (.refl _) (fun w hI => rds_l (kept0 hR hI.kp rfl)) ?_
    rintro v H1 ⟨rfl, rfl⟩
    refine ⟨List.nil_sublist _, ?_⟩
    refine WA.bin 6 #[true, true, true, true, true, true, true, true, true, true, true, true, true, true, false, false] _ _ _ rfl rfl (fun _ => rfl) rfl rfl (by decide) (by kernel_rfl) (by repeat (first | with_reducible refine Qp.then ?_ | with_reducible refine Qp.blk ?_ | with_reducible exact Qp.body)) ?_
    refine WA.bin 14 #[true, true, true, true, true, true, true, true, true, true, true, true, true, true, true, false] _ _ _ rfl rfl (fun _ => rfl) rfl rfl (by decide) (by kernel_rfl) (by repeat (first | with_reducible refine Qp.then ?_ | with_reducible refine Qp.blk ?_ | with_reducible exact Qp.body)) ?_
    refine WA.assign 15 #[true, true, true, true, true, true, true, true, true, true, true, true, true, true, true, true] _ rfl rfl rfl (by decide) (by kernel_rfl) (by repeat (first | with_reducible refine Qp.then ?_ | with_reducible refine Qp.blk ?_ | with_reducible exact Qp.body)) ?_
    refine WA.done (by kernel_rfl) ?_
    repeat (first | refine WC.seq ?_ | refine WC.region ?_ | refine WC.block ?_ | refine WC.skip ?_ | refine WC.exit ?_ | refine WC.ret ?_ | refine WL.nil ?_ | with_reducible refine QE.then_n ?_ | with_reducible refine QE.then_e ?_ | with_reducible refine QE.then_r ?_ | with_reducible refine QE.blk_hit ?_ | refine QE.blk_miss rfl ?_ | with_reducible refine QE.blk_n ?_ | with_reducible refine QE.blk_r ?_ | refine WC.cond_t rfl ?_ | refine WC.cond_f rfl ?_ | refine WL.move _ rfl (by decide) rfl ?_ | refine WL.assign _ rfl (by decide) rfl ?_ | refine WL.bin _ _ _ rfl (by decide) rfl rfl (fun _ => rfl) ?_ | refine WL.un _ _ rfl (by decide) rfl (fun _ => rfl) ?_ | refine WL.nilc _ rfl (by decide) rfl ?_ | refine WL.off rfl (by decide) ?_ | refine WL.extract _ _ rfl (by decide) rfl (fun _ => rfl) ?_ | refine WL.pick _ _ rfl (by decide) rfl rfl ?_ | refine WL.cv5_53 rfl (by decide) rfl ?_ | refine WL.ln39 rfl (by decide) rfl ?_ | refine WL.ld5 0 rfl (by decide) rfl rfl rfl ?_ | refine WL.ld5 1 rfl (by decide) rfl rfl rfl ?_ | refine WL.ld5 2 rfl (by decide) rfl rfl rfl ?_ | refine WL.ld5 3 rfl (by decide) rfl rfl rfl ?_)
    refine QE.ret1 _ _ rfl rfl (.refl _) ⟨?_, rfl⟩
    simp only [stepU]
    rw [Int.mul_comm]

set_option maxRecDepth 100000 in
theorem step_con (wk len : Nat) (n : Int) (hw : wk ≤ len) (hl : len ≤ 140737488355328) :
    Con Try.prog 40 #[.int .i64 wk, .int .i64 n, .int .i64 len] [] (fun _ => True) (same (.tuple #[.int .i64 (wkR len wk 0 n), .int .i64 (erR len wk 0 n)]) []) := by
  refine Con.intro Try.func40 rfl Try.ntmps40 rfl (fun w _ => ?_)
  repeat (first | refine WC.seq ?_ | refine WC.region ?_ | refine WC.block ?_ | refine WC.skip ?_ | refine WC.exit ?_ | refine WC.ret ?_ | refine WL.nil ?_ | with_reducible refine QE.then_n ?_ | with_reducible refine QE.then_e ?_ | with_reducible refine QE.then_r ?_ | with_reducible refine QE.blk_hit ?_ | refine QE.blk_miss rfl ?_ | with_reducible refine QE.blk_n ?_ | with_reducible refine QE.blk_r ?_ | refine WC.cond_t rfl ?_ | refine WC.cond_f rfl ?_ | refine WL.move _ rfl (by decide) rfl ?_ | refine WL.assign _ rfl (by decide) rfl ?_ | refine WL.bin _ _ _ rfl (by decide) rfl rfl (fun _ => rfl) ?_ | refine WL.un _ _ rfl (by decide) rfl (fun _ => rfl) ?_ | refine WL.nilc _ rfl (by decide) rfl ?_ | refine WL.off rfl (by decide) ?_ | refine WL.extract _ _ rfl (by decide) rfl (fun _ => rfl) ?_ | refine WL.pick _ _ rfl (by decide) rfl rfl ?_)
  refine WC.cond _ rfl (fun h => ?_) (fun h => ?_)
  · have h : n < 0 := of_decide_eq_true h
    repeat (first | refine WC.seq ?_ | refine WC.region ?_ | refine WC.block ?_ | refine WC.skip ?_ | refine WC.exit ?_ | refine WC.ret ?_ | refine WL.nil ?_ | with_reducible refine QE.then_n ?_ | with_reducible refine QE.then_e ?_ | with_reducible refine QE.then_r ?_ | with_reducible refine QE.blk_hit ?_ | refine QE.blk_miss rfl ?_ | with_reducible refine QE.blk_n ?_ | with_reducible refine QE.blk_r ?_ | refine WC.cond_t rfl ?_ | refine WC.cond_f rfl ?_ | refine WL.move _ rfl (by decide) rfl ?_ | refine WL.assign _ rfl (by decide) rfl ?_ | refine WL.bin _ _ _ rfl (by decide) rfl rfl (fun _ => rfl) ?_ | refine WL.un _ _ rfl (by decide) rfl (fun _ => rfl) ?_ | refine WL.nilc _ rfl (by decide) rfl ?_ | refine WL.off rfl (by decide) ?_ | refine WL.extract _ _ rfl (by decide) rfl (fun _ => rfl) ?_ | refine WL.pick _ _ rfl (by decide) rfl rfl ?_)
    refine QE.ret2 _ _ _ rfl rfl rfl (.refl _) ⟨?_, rfl⟩
    simp [wkR, erR, bad, h]
  have h : ¬ n < 0 := of_decide_eq_false h
  repeat (first | refine WC.seq ?_ | refine WC.region ?_ | refine WC.block ?_ | refine WC.skip ?_ | refine WC.exit ?_ | refine WC.ret ?_ | refine WL.nil ?_ | with_reducible refine QE.then_n ?_ | with_reducible refine QE.then_e ?_ | with_reducible refine QE.then_r ?_ | with_reducible refine QE.blk_hit ?_ | refine QE.blk_miss rfl ?_ | with_reducible refine QE.blk_n ?_ | with_reducible refine QE.blk_r ?_ | refine WC.cond_t rfl ?_ | refine WC.cond_f rfl ?_ | refine WL.move _ rfl (by decide) rfl ?_ | refine WL.assign _ rfl (by decide) rfl ?_ | refine WL.bin _ _ _ rfl (by decide) rfl rfl (fun _ => rfl) ?_ | refine WL.un _ _ rfl (by decide) rfl (fun _ => rfl) ?_ | refine WL.nilc _ rfl (by decide) rfl ?_ | refine WL.off rfl (by decide) ?_ | refine WL.extract _ _ rfl (by decide) rfl (fun _ => rfl) ?_ | refine WL.pick _ _ rfl (by decide) rfl rfl ?_)
  refine WC.cond _ rfl (fun h2 => ?_) (fun h2 => ?_)
  · have h2 : n > IntKind.i64.wrap (len - wk) := of_decide_eq_true h2
    rw [wr_i64 (by omega) (by omega)] at h2
    have h3 : ((len - wk : Nat) : Int) < n := by omega
    repeat (first | refine WC.seq ?_ | refine WC.region ?_ | refine WC.block ?_ | refine WC.skip ?_ | refine WC.exit ?_ | refine WC.ret ?_ | refine WL.nil ?_ | with_reducible refine QE.then_n ?_ | with_reducible refine QE.then_e ?_ | with_reducible refine QE.then_r ?_ | with_reducible refine QE.blk_hit ?_ | refine QE.blk_miss rfl ?_ | with_reducible refine QE.blk_n ?_ | with_reducible refine QE.blk_r ?_ | refine WC.cond_t rfl ?_ | refine WC.cond_f rfl ?_ | refine WL.move _ rfl (by decide) rfl ?_ | refine WL.assign _ rfl (by decide) rfl ?_ | refine WL.bin _ _ _ rfl (by decide) rfl rfl (fun _ => rfl) ?_ | refine WL.un _ _ rfl (by decide) rfl (fun _ => rfl) ?_ | refine WL.nilc _ rfl (by decide) rfl ?_ | refine WL.off rfl (by decide) ?_ | refine WL.extract _ _ rfl (by decide) rfl (fun _ => rfl) ?_ | refine WL.pick _ _ rfl (by decide) rfl rfl ?_)
    refine QE.ret2 _ _ _ rfl rfl rfl (.refl _) ⟨?_, rfl⟩
    simp [wkR, erR, bad, h, h3]
  · have h2 : ¬ n > IntKind.i64.wrap (len - wk) := of_decide_eq_false h2
    rw [wr_i64 (by omega) (by omega)] at h2
    have h3 : ¬ ((len - wk : Nat) : Int) < n := by omega
    repeat (first | refine WC.seq ?_ | refine WC.region ?_ | refine WC.block ?_ | refine WC.skip ?_ | refine WC.exit ?_ | refine WC.ret ?_ | refine WL.nil ?_ | with_reducible refine QE.then_n ?_ | with_reducible refine QE.then_e ?_ | with_reducible refine QE.then_r ?_ | with_reducible refine QE.blk_hit ?_ | refine QE.blk_miss rfl ?_ | with_reducible refine QE.blk_n ?_ | with_reducible refine QE.blk_r ?_ | refine WC.cond_t rfl ?_ | refine WC.cond_f rfl ?_ | refine WL.move _ rfl (by decide) rfl ?_ | refine WL.assign _ rfl (by decide) rfl ?_ | refine WL.bin _ _ _ rfl (by decide) rfl rfl (fun _ => rfl) ?_ | refine WL.un _ _ rfl (by decide) rfl (fun _ => rfl) ?_ | refine WL.nilc _ rfl (by decide) rfl ?_ | refine WL.off rfl (by decide) ?_ | refine WL.extract _ _ rfl (by decide) rfl (fun _ => rfl) ?_ | refine WL.pick _ _ rfl (by decide) rfl rfl ?_)
    refine QE.ret2 _ _ _ rfl rfl rfl (.refl _) ⟨?_, rfl⟩
    simp [wkR, erR, bad, h, h3]
    rw [wr_i64 (by omega) (by omega)]
    omega
end Go.Proofs.Ytalafklnnohlgaa.Oct
