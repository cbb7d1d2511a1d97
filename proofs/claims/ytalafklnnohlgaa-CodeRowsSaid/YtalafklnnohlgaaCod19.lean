/- The references' leaves: Number, SameInts, sub, few, list. Conditions: numbers in their ranges. -/
import Derived.Test.YtalafklnnohlgaaCod15
import Derived.Test.YtalafklnnohlgaaPur3
namespace Go.Proofs.Ytalafklnnohlgaa.Cod
open Go.RowKit X Go.Proofs.YtalafklnnohlgaaW.PrintLast
open Oct hiding agg39 size39
set_option linter.unusedVariables false
set_option linter.unusedSimpArgs false

def nbB : Nat → Int → List Int
  | 0, _ => []
  | r + 1, x => (x / 256 ^ r) % 256 :: nbB r x
theorem pw_pos (r : Nat) : (0 : Int) < 256 ^ r := Int.pow_pos (by decide)
theorem nb_mod : ∀ (r k : Nat) (x : Int), r ≤ k → nbB r (x % 256 ^ k) = nbB r x
  | 0, k, x, _ => rfl
  | r + 1, k, x, h => by
    simp only [nbB]
    rw [nb_mod r k x (by omega)]
    congr 1
    obtain ⟨s, rfl⟩ : ∃ s, k = r + 1 + s := ⟨k - (r + 1), by omega⟩
    have e : (256 : Int) ^ (r + 1 + s) = 256 ^ r * (256 * 256 ^ s) := by rw [Int.pow_add, Int.pow_succ, Int.mul_assoc]
    have hm : x % 256 ^ (r + 1 + s) = x + 256 ^ r * (-(256 * 256 ^ s * (x / 256 ^ (r + 1 + s)))) := by
      have := Int.emod_def x (256 ^ (r + 1 + s))
      rw [this, Int.mul_neg, ← Int.mul_assoc, ← e]; omega
    rw [hm, Int.add_mul_ediv_left _ _ (Int.ne_of_gt (pw_pos r)), Int.mul_assoc, ← Int.mul_neg]
    omega
theorem nb_be : ∀ (w : Nat) (x : Int), beB w x = nbB w x
  | 0, _ => rfl
  | r + 1, x => by
    show (x / 256 ^ r) % 256 :: beB r (x % 256 ^ r) = _
    rw [nb_be r, nb_mod r r x (Nat.le_refl _)]; rfl
theorem shr_val {n : Int} {j : Nat} {b : Int} (hb : b = 8 * (j : Int)) (hj : j ≤ 7) : n.fdiv (2 ^ (min b.toNat IntKind.u64.bits)) = n / 256 ^ j := by
  subst hb
  have e1 : min (8 * (j : Int)).toNat IntKind.u64.bits = 8 * j := by show min _ 64 = _; omega
  rw [e1, Int.pow_mul, show (2 : Int) ^ 8 = 256 by decide, Int.fdiv_eq_ediv_of_nonneg _ (Int.le_of_lt (pw_pos j))]
set_option maxHeartbeats 4000000 in
set_option maxRecDepth 100000 in
theorem number_con (n : Int) (w : Nat) (hw : w ≤ 8) :
    Con Try.prog 57 #[.int .u64 n, .int .i64 w] [] (fun _ => True) (fun v H' => ∃ A c, v = .slice A (beB w n).length c ∧ H' = [.row (.slice A (beB w n).length c) 5 1 (beB w n).length (b8 (beB w n))]) := by
  refine Con.intro Try.func57 rfl Try.ntmps57 rfl (fun w0 _ => ?_)
  repeat (first | refine WC.seq ?_ | refine WC.region ?_ | refine WC.block ?_ | refine WL.move _ rfl (by decide) rfl ?_ | refine WL.assign _ rfl (by decide) rfl ?_ | refine WL.bin _ _ _ rfl (by decide) rfl rfl (fun _ => rfl) ?_)
  refine WC.nilrow 5 1 ?_
  refine WC.loop (σ := Nat × Option Addr × Nat × List Int) (fun x => [(6, .int .i64 ((w : Int) - 1 - x.1)), (5, .slice x.2.1 x.2.2.2.length x.2.2.1), (0, .int .u64 n)]) (fun x => [.row (.slice x.2.1 x.2.2.2.length x.2.2.1) 5 1 x.2.2.2.length (b8 x.2.2.2)])
    (fun x => x.1 ≤ w ∧ x.2.2.2.length = x.1 ∧ x.2.2.2 ++ nbB (w - x.1) n = nbB w n) (fun x => w - x.1) (0, none, 0, []) ⟨Nat.zero_le _, rfl, rfl⟩ (.eq rfl (by congr 1; rw [wr_i64 (by omega) (by omega)]; simp) (.cons rfl (.cons rfl .nil))) (.refl _) ?_
  rintro ⟨i, A, c, out⟩ ⟨g1, g2, g3⟩
  dsimp only at g1 g2 g3 ⊢
  repeat (first | refine WC.seq ?_ | refine WC.region ?_ | refine WL.nil ?_ | with_reducible refine QE.then_n ?_ | refine WL.move _ rfl (by decide) rfl ?_ | refine WL.bin _ _ _ rfl (by decide) rfl rfl (fun _ => rfl) ?_)
  refine WC.cond _ rfl (fun hb => ?_) (fun hb => ?_)
  · have hb : (w : Int) - 1 - i ≥ 0 := of_decide_eq_true hb
    obtain ⟨j, hj⟩ : ∃ j, w - i = j + 1 := ⟨w - i - 1, by omega⟩
    repeat (first | refine WC.seq ?_ | refine WC.region ?_ | refine WC.block ?_ | refine WC.skip ?_ | refine WL.move _ rfl (by decide) rfl ?_ | refine WL.bin _ _ _ rfl (by decide) rfl rfl (fun _ => rfl) ?_)
    refine WL.shr .u64 .i64 n (IntKind.i64.wrap (8 * ((w : Int) - 1 - i))) (n / 256 ^ j) rfl (by decide) rfl rfl (by rw [wr_i64 (by omega) (by omega)]; omega) (shr_val (by rw [wr_i64 (by omega) (by omega)]; omega) (by omega)) ?_
    repeat (refine WL.cv53_5 rfl (by decide) rfl ?_)
    refine WL.know (.int .u8 (n / 256 ^ j % 256)) (s := 18) rfl (congrArg _ (wr_u8 _)) ?_
    refine WL.buildS 1 5 1 [(0, .int .u8 (n / 256 ^ j % 256))] [.int .u8 (n / 256 ^ j % 256)] rfl (by decide) rfl rfl rfl (fun w => by kernel_rfl) (fun gb => ?_)
    refine WL.append 1 5 1 1 out.length 1 1 (.int .u8 0) _ _ (b8 out) [.int .u8 (n / 256 ^ j % 256)] rfl (by decide) rfl rfl Try.underlying39 info5 rfl (by decide) rfl (fun w hI => row_reads hI (i := 0) rfl) (by simp [Value.oneCell']) (by omega) (by omega) (fun A3 c3 => ?_)
    repeat (first | refine WC.region ?_ | refine WL.nil ?_ | refine WL.move _ rfl (by decide) rfl ?_ | refine WL.assign _ rfl (by decide) rfl ?_ | refine WL.bin _ _ _ rfl (by decide) rfl rfl (fun _ => rfl) ?_)
    refine QE.round (i + 1, A3, c3, out ++ [n / 256 ^ j % 256]) ⟨by dsimp only; omega, by simp [g2], ?_⟩ (by dsimp only; omega) (.eq rfl (by congr 1; rw [wr_i64 (by omega) (by omega)]; dsimp only; omega) (.eq rfl (by simp) (.cons rfl .nil))) ?_
    · dsimp only
      rw [← g3, hj, show w - (i + 1) = j by omega, List.append_assoc]; rfl
    · dsimp only
      rw [List.length_append, show b8 (out ++ [n / 256 ^ j % 256]) = b8 out ++ [.int .u8 (n / 256 ^ j % 256)] by simp [b8]]
      exact .cons _ (.refl _)
  · have hb : ¬ (w : Int) - 1 - i ≥ 0 := of_decide_eq_false hb
    have e1 : out = beB w n := by rw [nb_be, ← g3, show w - i = 0 by omega]; simp [nbB]
    repeat (first | refine WC.seq ?_ | refine WC.region ?_ | refine WC.exit ?_ | refine WC.ret ?_ | refine WL.move _ rfl (by decide) rfl ?_ | refine WL.assign _ rfl (by decide) rfl ?_)
    rw [e1]
    exact QE.ret1 _ _ rfl rfl (.refl _) ⟨A, c, rfl, rfl⟩
set_option maxHeartbeats 4000000 in
set_option maxRecDepth 100000 in
theorem sints_con (A B : Option Addr) (c k : Nat) (x y : List Int) (hx : x.length ≤ maxLen) (hy : y.length ≤ maxLen) :
    Con Try.prog 71 #[.slice A x.length c, .slice B y.length k] [] (fun w => Rds w A x.length 1 (i64s x) ∧ Rds w B y.length 1 (i64s y)) (same (.bool (decide (x = y))) []) := by
  simp only [maxLen] at hx hy
  refine Con.intro Try.func71 rfl Try.ntmps71 rfl (fun w hR => ?_)
  repeat (first | refine WC.seq ?_ | refine WC.region ?_ | refine WL.nil ?_ | with_reducible refine QE.then_n ?_ | refine WL.move _ rfl (by decide) rfl ?_ | refine WL.assign _ rfl (by decide) rfl ?_ | refine WL.bin _ _ _ rfl (by decide) rfl rfl (fun _ => rfl) ?_ | refine WL.ln25 rfl (by decide) rfl ?_)
  refine WC.cond _ rfl (fun hb => ?_) (fun hb => ?_)
  · repeat (first | refine WC.seq ?_ | refine WC.region ?_ | refine WC.ret ?_ | with_reducible refine QE.then_r ?_ | refine WL.assign _ rfl (by decide) rfl ?_)
    refine QE.ret1 _ _ rfl rfl (.refl _) ⟨?_, rfl⟩
    have : x ≠ y := by rintro rfl; simp at hb
    simp [this]
  have hl : x.length = y.length := by simp at hb; omega
  repeat (first | refine WC.seq ?_ | refine WC.region ?_ | refine WC.block ?_ | refine WC.skip ?_ | refine WL.move _ rfl (by decide) rfl ?_ | refine WL.ln25 rfl (by decide) rfl ?_)
  refine WC.loop (σ := Nat) (fun i => [(13, .int .i64 i), (12, .int .i64 x.length), (0, .slice A x.length c), (1, .slice B y.length k)]) (fun _ => []) (fun i => i ≤ x.length ∧ x.take i = y.take i) (fun i => x.length - i) 0 ⟨Nat.zero_le _, rfl⟩ (.cons rfl (.cons rfl (.cons rfl (.cons rfl .nil)))) (.refl _) ?_
  rintro i ⟨h1, h2⟩
  repeat (first | refine WC.seq ?_ | refine WC.region ?_ | refine WL.bin _ _ _ rfl (by decide) rfl rfl (fun _ => rfl) ?_)
  refine WC.cond _ rfl (fun hb => ?_) (fun hb => ?_)
  · have hb : (i : Int) < x.length := of_decide_eq_true hb
    obtain ⟨u, hu⟩ : ∃ u, x[i]? = some u := ⟨_, List.getElem?_eq_getElem (by omega)⟩
    obtain ⟨v, hv⟩ : ∃ v, y[i]? = some v := ⟨_, List.getElem?_eq_getElem (by omega)⟩
    cases A with
    | none => have := hR.1.nil rfl; omega
    | some ad =>
    cases B with
    | none => have := hR.2.nil rfl; omega
    | some bd =>
    repeat (first | refine WC.seq ?_ | refine WC.region ?_ | refine WC.block ?_ | refine WC.skip ?_ | refine WL.move _ rfl (by decide) rfl ?_ | refine WL.assign _ rfl (by decide) rfl ?_)
    refine WC.draw 9 #[false, false, false, false, false, false, false, false, false] [] [] (by kernel_rfl) rfl rfl (by repeat (first | exact List.Sublist.refl _ | exact List.nil_sublist _ | refine List.Sublist.cons_cons _ ?_ | refine List.Sublist.cons _ ?_)) ?_
    refine WA.move 0 #[true, false, false, false, false, false, false, false, false] _ rfl rfl rfl (by decide) (by kernel_rfl) (by repeat (first | with_reducible refine Qp.then ?_ | with_reducible refine Qp.blk ?_ | with_reducible exact Qp.body)) ?_
    refine WA.move 1 #[true, true, false, false, false, false, false, false, false] _ rfl rfl rfl (by decide) (by kernel_rfl) (by repeat (first | with_reducible refine Qp.then ?_ | with_reducible refine Qp.blk ?_ | with_reducible exact Qp.body)) ?_
    refine WA.idx 2 #[true, true, true, false, false, false, false, false, false] 3 1 x.length c .i64 ad (i : Int) Try.underlying25 size3 (by omega) hb rfl rfl rfl rfl (by decide) (by kernel_rfl) (by repeat (first | with_reducible refine Qp.then ?_ | with_reducible refine Qp.blk ?_ | with_reducible exact Qp.body)) ?_
    refine WA.load1 3 #[true, true, true, true, false, false, false, false, false] (ad.add ((i : Int).toNat * 1)) (.int .i64 u) rfl rfl (by decide) (List.nil_sublist _) (by kernel_rfl) (by repeat (first | with_reducible refine Qp.then ?_ | with_reducible refine Qp.blk ?_ | with_reducible exact Qp.body)) rfl agg3 (fun w hS => (Oct.kept0 hR.1 hS.2 rfl).cell rfl (i64s_at hu)) ?_
    refine WA.move 4 #[true, true, true, true, true, false, false, false, false] _ rfl rfl rfl (by decide) (by kernel_rfl) (by repeat (first | with_reducible refine Qp.then ?_ | with_reducible refine Qp.blk ?_ | with_reducible exact Qp.body)) ?_
    refine WA.move 5 #[true, true, true, true, true, true, false, false, false] _ rfl rfl rfl (by decide) (by kernel_rfl) (by repeat (first | with_reducible refine Qp.then ?_ | with_reducible refine Qp.blk ?_ | with_reducible exact Qp.body)) ?_
    refine WA.idx 6 #[true, true, true, true, true, true, true, false, false] 3 1 y.length k .i64 bd (i : Int) Try.underlying25 size3 (by omega) (by omega) rfl rfl rfl rfl (by decide) (by kernel_rfl) (by repeat (first | with_reducible refine Qp.then ?_ | with_reducible refine Qp.blk ?_ | with_reducible exact Qp.body)) ?_
    refine WA.load1 7 #[true, true, true, true, true, true, true, true, false] (bd.add ((i : Int).toNat * 1)) (.int .i64 v) rfl rfl (by decide) (List.nil_sublist _) (by kernel_rfl) (by repeat (first | with_reducible refine Qp.then ?_ | with_reducible refine Qp.blk ?_ | with_reducible exact Qp.body)) rfl agg3 (fun w hS => (Oct.kept0 hR.2 hS.2 rfl).cell rfl (i64s_at hv)) ?_
    refine WA.bin 8 #[true, true, true, true, true, true, true, true, true] _ _ _ rfl rfl (fun _ => rfl) rfl rfl (by decide) (by kernel_rfl) (by repeat (first | with_reducible refine Qp.then ?_ | with_reducible refine Qp.blk ?_ | with_reducible exact Qp.body)) ?_
    refine WA.done (by kernel_rfl) ?_
    repeat (with_reducible refine QE.then_n ?_)
    refine WC.cond _ rfl (fun hb2 => ?_) (fun hb2 => ?_)
    · repeat (first | refine WC.seq ?_ | refine WC.region ?_ | refine WC.ret ?_ | with_reducible refine QE.then_r ?_ | with_reducible refine QE.blk_r ?_ | refine WL.assign _ rfl (by decide) rfl ?_)
      refine QE.ret1 _ _ rfl rfl (.refl _) ⟨?_, rfl⟩
      have : x ≠ y := by rintro rfl; rw [hu] at hv; cases hv; simp at hb2
      simp [this]
    · repeat (first | refine WC.region ?_ | refine WC.skip ?_ | refine WL.nil ?_ | refine WL.move _ rfl (by decide) rfl ?_ | refine WL.bin _ _ _ rfl (by decide) rfl rfl (fun _ => rfl) ?_)
      have huv : u = v := by simpa using hb2
      refine QE.round (i + 1) ⟨by omega, ?_⟩ (by omega) (.eq rfl (by congr 1; rw [wr_i64 (by omega) (by omega)]; simp) (.cons rfl (.cons rfl (.cons rfl .nil)))) (.refl _)
      rw [List.take_add_one, List.take_add_one, hu, hv, h2, huv]
  · have hb : ¬ (i : Int) < x.length := of_decide_eq_false hb
    repeat (first | refine WC.seq ?_ | refine WC.region ?_ | refine WC.exit ?_ | refine WC.ret ?_ | refine WL.assign _ rfl (by decide) rfl ?_)
    refine QE.ret1 _ _ rfl rfl (.refl _) ⟨?_, rfl⟩
    have : x = y := by rw [List.take_of_length_le (by omega), List.take_of_length_le (by omega)] at h2; exact h2
    simp [this]
end Go.Proofs.Ytalafklnnohlgaa.Cod
