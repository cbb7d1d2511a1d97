/- The references' leaves: sub, few, list, Width, Get. Conditions: numbers in their ranges. -/
import Derived.Test.YtalafklnnohlgaaCod19
namespace Go.Proofs.Ytalafklnnohlgaa.Cod
open Go.RowKit X Go.Proofs.YtalafklnnohlgaaW.PrintLast
open Oct hiding agg39 size39
set_option linter.unusedVariables false
set_option linter.unusedSimpArgs false

def subK (a : Ev) : Int := if a.n 0 = 1 then a.n 1 else if a.n 0 = 2 then a.n 15 else 0
set_option maxHeartbeats 4000000 in
set_option maxRecDepth 100000 in
theorem sub_con (a : Ev) (A6 A27 : Option Addr) (c6 c27 : Nat) : Con Try.prog 73 #[evV a A6 c6 A27 c27] [] (fun _ => True) (same (.int .i64 (subK a)) []) := by
  refine Con.intro Try.func73 rfl Try.ntmps73 rfl (fun w _ => ?_)
  unfold evV
  repeat (first | refine WC.seq ?_ | refine WC.region ?_)
  refine WL.box _ (evC a.n (.slice A6 a.nums.length c6) (.slice A27 a.mem.length c27)) rfl (by decide) rfl rfl (fun b1 => ?_)
  repeat (first | refine WC.seq ?_ | refine WC.region ?_ | refine WL.nil ?_ | with_reducible refine QE.then_n ?_ | refine WL.assign _ rfl (by decide) rfl ?_ | refine WL.bin _ _ _ rfl (by decide) rfl rfl (fun _ => rfl) ?_ | refine WL.fd37_0 rfl (by decide) rfl ?_ | refine WL.ld3 0 rfl (by decide) rfl rfl rfl ?_)
  refine WC.cond _ rfl (fun h => ?_) (fun h => ?_)
  · have h : a.n 0 = 1 := of_decide_eq_true h
    repeat (first | refine WC.seq ?_ | refine WC.region ?_ | refine WC.ret ?_ | with_reducible refine QE.then_r ?_ | refine WL.assign _ rfl (by decide) rfl ?_ | refine WL.fd33_0 rfl (by decide) rfl ?_ | refine WL.fd37_1 rfl (by decide) rfl ?_ | refine WL.ld3 0 rfl (by decide) rfl rfl rfl ?_)
    exact QE.ret1 _ _ rfl rfl (List.nil_sublist _) ⟨by unfold subK; rw [if_pos h], rfl⟩
  have h : ¬ a.n 0 = 1 := of_decide_eq_false h
  repeat (first | refine WC.seq ?_ | refine WC.region ?_ | refine WC.skip ?_ | refine WL.nil ?_ | with_reducible refine QE.then_n ?_ | refine WL.bin _ _ _ rfl (by decide) rfl rfl (fun _ => rfl) ?_ | refine WL.fd37_0 rfl (by decide) rfl ?_ | refine WL.ld3 0 rfl (by decide) rfl rfl rfl ?_)
  refine WC.cond _ rfl (fun h2 => ?_) (fun h2 => ?_)
  · have h2 : a.n 0 = 2 := of_decide_eq_true h2
    repeat (first | refine WC.seq ?_ | refine WC.region ?_ | refine WC.ret ?_ | with_reducible refine QE.then_r ?_ | refine WL.assign _ rfl (by decide) rfl ?_ | refine WL.fd35_0 rfl (by decide) rfl ?_ | refine WL.fd37_2 rfl (by decide) rfl ?_ | refine WL.ld3 0 rfl (by decide) rfl rfl rfl ?_)
    exact QE.ret1 _ _ rfl rfl (List.nil_sublist _) ⟨by unfold subK; rw [if_neg h, if_pos h2], rfl⟩
  have h2 : ¬ a.n 0 = 2 := of_decide_eq_false h2
  repeat (first | refine WC.seq ?_ | refine WC.region ?_ | refine WC.skip ?_ | refine WC.ret ?_ | refine WL.assign _ rfl (by decide) rfl ?_)
  exact QE.ret1 _ _ rfl rfl (List.nil_sublist _) ⟨by unfold subK; rw [if_neg h, if_neg h2], rfl⟩
def byteI (x : Int) : Bool := decide (0 ≤ x ∧ x ≤ 255)
def fewL (l : List Int) : Bool := l.all byteI && decide (l.length ≤ 32)
set_option maxHeartbeats 4000000 in
set_option maxRecDepth 100000 in
theorem fewl_con (A : Option Addr) (c : Nat) (l : List Int) (hn : l.length ≤ maxLen) : Con Try.prog 77 #[.slice A l.length c] [] (fun w => Rds w A l.length 1 (i64s l)) (same (.bool (fewL l)) []) := by
  simp only [maxLen] at hn
  refine Con.intro Try.func77 rfl Try.ntmps77 rfl (fun w hR => ?_)
  repeat (first | refine WC.seq ?_ | refine WC.region ?_ | refine WC.block ?_ | refine WL.move _ rfl (by decide) rfl ?_ | refine WL.assign _ rfl (by decide) rfl ?_ | refine WL.ln25 rfl (by decide) rfl ?_)
  refine WC.loop (σ := Nat) (fun i => [(7, .int .i64 i), (6, .int .i64 l.length), (5, .slice A l.length c), (0, .slice A l.length c)]) (fun _ => []) (fun i => i ≤ l.length ∧ (l.take i).all byteI = true) (fun i => l.length - i) 0 ⟨Nat.zero_le _, rfl⟩ (.cons rfl (.cons rfl (.cons rfl (.cons rfl .nil)))) (.refl _) ?_
  rintro i ⟨h1, h2⟩
  repeat (first | refine WC.seq ?_ | refine WC.region ?_ | refine WL.bin _ _ _ rfl (by decide) rfl rfl (fun _ => rfl) ?_)
  refine WC.cond _ rfl (fun hb => ?_) (fun hb => ?_)
  · have hb : (i : Int) < l.length := of_decide_eq_true hb
    obtain ⟨u, hu⟩ : ∃ u, l[i]? = some u := ⟨_, List.getElem?_eq_getElem (by omega)⟩
    have hum := List.mem_of_getElem? hu
    have hbad : byteI u = false → fewL l = false := fun h => by
      unfold fewL
      rw [Bool.and_eq_false_iff]
      exact .inl (List.all_eq_false.2 ⟨u, hum, by simp [h]⟩)
    repeat (first | refine WC.seq ?_ | refine WC.region ?_ | refine WC.block ?_ | refine WC.skip ?_)
    refine WL.idx 3 1 l.length c .i64 A (i : Int) rfl (by decide) rfl rfl Try.underlying25 size3 (by omega) hb (fun w hI => hR.nil) (fun ad had => ?_)
    refine WL.load1 (ad.add ((i : Int).toNat * 1)) (.int .i64 u) rfl (by decide) rfl agg3 (fun w hI => (Oct.kept0 hR hI.kp rfl).cell had (i64s_at hu)) ?_
    repeat (first | refine WC.seq ?_ | refine WC.region ?_ | refine WL.move _ rfl (by decide) rfl ?_ | refine WL.assign _ rfl (by decide) rfl ?_ | refine WL.bin _ _ _ rfl (by decide) rfl rfl (fun _ => rfl) ?_)
    refine WL.split 13 _ rfl (fun hb2 => ?_) (fun hb2 => ?_)
    · have hb2 : u < 0 := of_decide_eq_true hb2
      repeat (first | refine WC.seq ?_ | refine WC.region ?_ | refine WC.ret ?_ | refine WL.nil ?_ | with_reducible refine QE.then_n ?_ | with_reducible refine QE.then_r ?_ | with_reducible refine QE.blk_r ?_ | refine WC.cond_t rfl ?_ | refine WL.assign _ rfl (by decide) rfl ?_ | refine WL.off rfl (by decide) ?_ | refine WL.pick _ _ rfl (by decide) rfl rfl ?_)
      exact QE.ret1 _ _ rfl rfl (.refl _) ⟨by rw [hbad (decide_eq_false (by omega))], rfl⟩
    · have hb2 : ¬ u < 0 := of_decide_eq_false hb2
      repeat (first | refine WL.nil ?_ | with_reducible refine QE.then_n ?_ | refine WL.move _ rfl (by decide) rfl ?_ | refine WL.bin _ _ _ rfl (by decide) rfl rfl (fun _ => rfl) ?_ | refine WL.pick _ _ rfl (by decide) rfl rfl ?_)
      refine WC.cond _ rfl (fun hb3 => ?_) (fun hb3 => ?_)
      · have hb3 : u > 255 := of_decide_eq_true hb3
        repeat (first | refine WC.seq ?_ | refine WC.region ?_ | refine WC.ret ?_ | with_reducible refine QE.then_r ?_ | with_reducible refine QE.blk_r ?_ | refine WL.assign _ rfl (by decide) rfl ?_)
        exact QE.ret1 _ _ rfl rfl (.refl _) ⟨by rw [hbad (decide_eq_false (by omega))], rfl⟩
      · have hb3 : ¬ u > 255 := of_decide_eq_false hb3
        repeat (first | refine WC.region ?_ | refine WC.skip ?_ | refine WL.nil ?_ | refine WL.move _ rfl (by decide) rfl ?_ | refine WL.bin _ _ _ rfl (by decide) rfl rfl (fun _ => rfl) ?_)
        refine QE.round (i + 1) ⟨by omega, ?_⟩ (by omega) (.eq rfl (by congr 1; rw [wr_i64 (by omega) (by omega)]; simp) (.cons rfl (.cons rfl (.cons rfl .nil)))) (.refl _)
        rw [List.take_add_one, hu]
        simp only [Option.toList_some, List.all_append, h2, Bool.true_and, List.all_cons, List.all_nil, Bool.and_true]
        exact decide_eq_true (by omega)
  · have hb : ¬ (i : Int) < l.length := of_decide_eq_false hb
    rw [List.take_of_length_le (by omega)] at h2
    repeat (first | refine WC.seq ?_ | refine WC.region ?_ | refine WC.exit ?_ | refine WC.ret ?_ | refine WL.move _ rfl (by decide) rfl ?_ | refine WL.assign _ rfl (by decide) rfl ?_ | refine WL.bin _ _ _ rfl (by decide) rfl rfl (fun _ => rfl) ?_ | refine WL.ln25 rfl (by decide) rfl ?_)
    exact QE.ret1 _ _ rfl rfl (.refl _) ⟨congrArg Value.bool (by unfold fewL; rw [h2]; simp; omega), rfl⟩
theorem u8b_eq (x : Int) : u8b x = [x % 256] := by
  show [(IntKind.u64.wrap x / 256 ^ 0) % 256] = _
  rw [X.wr_u64', show (256 : Int) ^ 0 = 1 by decide]
  congr 1; omega
set_option maxHeartbeats 4000000 in
set_option maxRecDepth 100000 in
theorem list_ref (A : Option Addr) (c : Nat) (l : List Int) (hn : l.length ≤ 255) : Con Try.prog 79 #[.slice A l.length c] [] (fun w => Rds w A l.length 1 (i64s l)) (fun v H' => ∃ A c, v = .slice A (u8b l.length ++ l.flatMap u8b).length c ∧ H' = [.row (.slice A (u8b l.length ++ l.flatMap u8b).length c) 5 1 (u8b l.length ++ l.flatMap u8b).length (b8 (u8b l.length ++ l.flatMap u8b))]) := by
  refine Con.intro Try.func79 rfl Try.ntmps79 rfl (fun w hR => ?_)
  repeat (first | refine WC.seq ?_ | refine WC.region ?_ | refine WL.move _ rfl (by decide) rfl ?_ | refine WL.assign _ rfl (by decide) rfl ?_ | refine WL.cv3_5 rfl (by decide) rfl ?_ | refine WL.ln25 rfl (by decide) rfl ?_)
  refine WL.know (.int .u8 ((l.length : Int) % 256)) (s := 8) rfl (congrArg _ (wr_u8 _)) ?_
  refine WL.buildS 1 5 1 [(0, .int .u8 ((l.length : Int) % 256))] [.int .u8 ((l.length : Int) % 256)] rfl (by decide) rfl rfl rfl (fun w => by kernel_rfl) (fun gb => ?_)
  repeat (first | refine WC.seq ?_ | refine WC.region ?_ | refine WC.block ?_ | refine WL.move _ rfl (by decide) rfl ?_ | refine WL.assign _ rfl (by decide) rfl ?_ | refine WL.ln25 rfl (by decide) rfl ?_)
  refine WC.loop (σ := Nat × Option Addr × Nat × List Int) (fun x => [(12, .int .i64 x.1), (11, .int .i64 l.length), (10, .slice A l.length c), (3, .slice x.2.1 x.2.2.2.length x.2.2.1)]) (fun x => [.row (.slice x.2.1 x.2.2.2.length x.2.2.1) 5 1 x.2.2.2.length (b8 x.2.2.2)])
    (fun x => x.1 ≤ l.length ∧ x.2.2.2.length = x.1 + 1 ∧ x.2.2.2 = u8b l.length ++ (l.take x.1).flatMap u8b) (fun x => l.length - x.1) (0, some ⟨gb, 0, none⟩, 1, [(l.length : Int) % 256]) ⟨Nat.zero_le _, rfl, by simp [u8b_eq]⟩ (.cons rfl (.cons rfl (.cons rfl (.cons rfl .nil)))) (.refl _) ?_
  rintro ⟨i, A2, c2, out⟩ ⟨g1, g2, g3⟩
  dsimp only at g1 g2 g3 ⊢
  repeat (first | refine WC.seq ?_ | refine WC.region ?_ | refine WL.bin _ _ _ rfl (by decide) rfl rfl (fun _ => rfl) ?_)
  refine WC.cond _ rfl (fun hb => ?_) (fun hb => ?_)
  · have hb : (i : Int) < l.length := of_decide_eq_true hb
    obtain ⟨u, hu⟩ : ∃ u, l[i]? = some u := ⟨_, List.getElem?_eq_getElem (by omega)⟩
    repeat (first | refine WC.seq ?_ | refine WC.region ?_ | refine WC.block ?_ | refine WC.skip ?_)
    refine WL.idx 3 1 l.length c .i64 A (i : Int) rfl (by decide) rfl rfl Try.underlying25 size3 (by omega) hb (fun w hI => hR.nil) (fun ad had => ?_)
    refine WL.load1 (ad.add ((i : Int).toNat * 1)) (.int .i64 u) rfl (by decide) rfl agg3 (fun w hI => (Oct.kept0 hR hI.kp rfl).cell had (i64s_at hu)) ?_
    repeat (first | refine WC.region ?_ | refine WL.move _ rfl (by decide) rfl ?_ | refine WL.assign _ rfl (by decide) rfl ?_ | refine WL.cv3_5 rfl (by decide) rfl ?_)
    refine WL.know (.int .u8 (u % 256)) (s := 18) rfl (congrArg _ (wr_u8 _)) ?_
    refine WL.buildS 1 5 1 [(0, .int .u8 (u % 256))] [.int .u8 (u % 256)] rfl (by decide) rfl rfl rfl (fun w => by kernel_rfl) (fun gb2 => ?_)
    refine WL.append 1 5 1 1 out.length 1 1 (.int .u8 0) _ _ (b8 out) [.int .u8 (u % 256)] rfl (by decide) rfl rfl Try.underlying39 info5 rfl (by decide) rfl (fun w hI => row_reads hI (i := 0) rfl) (by simp [Value.oneCell']) (by omega) (by omega) (fun A3 c3 => ?_)
    repeat (first | refine WC.region ?_ | refine WL.nil ?_ | refine WL.move _ rfl (by decide) rfl ?_ | refine WL.assign _ rfl (by decide) rfl ?_ | refine WL.bin _ _ _ rfl (by decide) rfl rfl (fun _ => rfl) ?_)
    refine QE.round (i + 1, A3, c3, out ++ [u % 256]) ⟨by dsimp only; omega, by simp [g2], ?_⟩ (by dsimp only; omega) (.eq rfl (by congr 1; rw [wr_i64 (by omega) (by omega)]; simp) (.cons rfl (.cons rfl (.eq rfl (by simp) .nil)))) ?_
    · dsimp only
      rw [List.take_add_one, hu, g3]
      simp [u8b_eq]
    · dsimp only
      rw [List.length_append, show b8 (out ++ [u % 256]) = b8 out ++ [.int .u8 (u % 256)] by simp [b8]]
      exact .cons _ (.refl _)
  · have hb : ¬ (i : Int) < l.length := of_decide_eq_false hb
    rw [List.take_of_length_le (by omega)] at g3
    repeat (first | refine WC.seq ?_ | refine WC.region ?_ | refine WC.exit ?_ | refine WC.ret ?_ | refine WL.move _ rfl (by decide) rfl ?_ | refine WL.assign _ rfl (by decide) rfl ?_)
    rw [← g3]
    exact QE.ret1 _ _ rfl rfl (.refl _) ⟨A2, c2, rfl, rfl⟩
/-- The letters of the fields that are numbers. -/
def lets : List Int := [100, 119, 99, 113, 118, 112, 111, 102, 97, 101, 116, 68, 87, 67, 80, 86, 71, 83, 73, 85]
/-- A letter's field. -/
def ltF (c : Int) : Fd :=
  if c = 100 then .n 9 1 .i64 else if c = 119 then .n 10 2 .i64 else if c = 99 then .n 11 2 .i64 else if c = 113 then .n 12 1 .i64 else
  if c = 118 then .n 2 1 .i64 else if c = 112 then .n 3 1 .i64 else if c = 111 then .n 4 1 .i64 else if c = 102 then .f 5 else
  if c = 97 then .n 7 8 .i64 else if c = 101 then .n 8 8 .i64 else if c = 116 then .n 28 8 .i64 else
  if c = 68 then .n 16 1 .i64 else if c = 87 then .n 22 2 .i64 else if c = 67 then .n 23 2 .i64 else if c = 80 then .n 20 1 .i64 else
  if c = 86 then .n 17 1 .i64 else if c = 71 then .n 18 1 .i64 else if c = 83 then .n 26 4 .u32 else if c = 73 then .n 21 1 .i64 else .n 19 1 .i64
def wdF : Fd → Nat
  | .n _ w _ => w
  | .f _ => 1
  | .l _ => 0
def gtF (a : Ev) : Fd → Int
  | .n j _ k => if k = .u32 then IntKind.i64.wrap (a.n j) else a.n j
  | .f j => if a.n j = 1 then 1 else 0
  | .l _ => 0
set_option maxHeartbeats 4000000 in
set_option maxRecDepth 100000 in
theorem width_con (c : Int) (hc : c ∈ lets) : Con Try.prog 75 #[.int .u8 c] [] (fun _ => True) (same (.int .i64 (wdF (ltF c))) []) := by
  simp only [lets, List.mem_cons, List.not_mem_nil, or_false] at hc
  rcases hc with rfl | rfl | rfl | rfl | rfl | rfl | rfl | rfl | rfl | rfl | rfl | rfl | rfl | rfl | rfl | rfl | rfl | rfl | rfl | rfl
  all_goals
    refine Con.intro Try.func75 rfl Try.ntmps75 rfl (fun w _ => ?_)
    repeat (first | refine WC.seq ?_ | refine WC.region ?_ | refine WC.block ?_ | refine WC.skip ?_ | refine WC.ret ?_ | refine WL.nil ?_ | with_reducible refine QE.then_n ?_ | with_reducible refine QE.then_r ?_ | with_reducible refine QE.blk_r ?_ | refine WC.cond_t rfl ?_ | refine WC.cond_f rfl ?_ | refine WL.move _ rfl (by decide) rfl ?_ | refine WL.assign _ rfl (by decide) rfl ?_ | refine WL.bin _ _ _ rfl (by decide) rfl rfl (fun _ => rfl) ?_)
    exact QE.ret1 _ _ rfl rfl (.refl _) ⟨rfl, rfl⟩
def zPc : List Value := [.int .i64 0, .int .i64 0, .int .i64 0, .int .i64 0, .int .i64 0, .int .i64 0, .int .i64 0, .int .i64 0, .int .i64 0, .int .u32 0, .int .u32 0, .int .u32 0, .slice none 0 0]
def zP : Value := .agg #[.int .i64 0, .int .i64 0, .int .i64 0, .int .i64 0, .int .i64 0, .int .i64 0, .int .i64 0, .int .i64 0, .int .i64 0, .int .u32 0, .int .u32 0, .int .u32 0, .slice none 0 0]
theorem zero35 : ∀ w, (zeroValue 35).run Try.prog w = .ok zP w := fun w => by kernel_rfl
set_option maxHeartbeats 8000000 in
set_option maxRecDepth 100000 in
theorem get_con (a : Ev) (A6 A27 : Option Addr) (c6 c27 : Nat) (c : Int) (hc : c ∈ lets) : Con Try.prog 70 #[evV a A6 c6 A27 c27, .int .u8 c] [] (fun _ => True) (same (.int .i64 (gtF a (ltF c))) []) := by
  simp only [lets, List.mem_cons, List.not_mem_nil, or_false] at hc
  rcases hc with rfl | rfl | rfl | rfl | rfl | rfl | rfl | rfl | rfl | rfl | rfl | rfl | rfl | rfl | rfl | rfl | rfl | rfl | rfl | rfl
  all_goals
    refine Con.intro Try.func70 rfl Try.ntmps70 rfl (fun w _ => ?_)
    unfold evV
    repeat (first | refine WC.seq ?_ | refine WC.region ?_)
    refine WL.box _ (evC a.n (.slice A6 a.nums.length c6) (.slice A27 a.mem.length c27)) rfl (by decide) rfl rfl (fun b1 => ?_)
    repeat (first | refine WC.seq ?_ | refine WC.region ?_ | refine WC.block ?_ | refine WC.skip ?_ | refine WC.ret ?_ | refine WL.nil ?_ | with_reducible refine QE.then_n ?_ | with_reducible refine QE.then_r ?_ | with_reducible refine QE.blk_r ?_ | refine WC.cond_t rfl ?_ | refine WC.cond_f rfl ?_ | refine WL.move _ rfl (by decide) rfl ?_ | refine WL.assign _ rfl (by decide) rfl ?_ | refine WL.bin _ _ _ rfl (by decide) rfl rfl (fun _ => rfl) ?_ | refine WL.fd27_0 rfl (by decide) rfl ?_ | refine WL.fd27_1 rfl (by decide) rfl ?_ | refine WL.fd27_2 rfl (by decide) rfl ?_ | refine WL.fd27_3 rfl (by decide) rfl ?_ | refine WL.fd33_1 rfl (by decide) rfl ?_ | refine WL.fd33_2 rfl (by decide) rfl ?_ | refine WL.fd33_3 rfl (by decide) rfl ?_ | refine WL.fd33_4 rfl (by decide) rfl ?_ | refine WL.fd33_6 rfl (by decide) rfl ?_ | refine WL.fd33_7 rfl (by decide) rfl ?_ | refine WL.fd33_8 rfl (by decide) rfl ?_ | refine WL.fd37_1 rfl (by decide) rfl ?_ | refine WL.fd37_2 rfl (by decide) rfl ?_ | refine WL.fd37_3 rfl (by decide) rfl ?_ | refine WL.ld2 0 rfl (by decide) rfl rfl rfl ?_ | refine WL.ld3 0 rfl (by decide) rfl rfl rfl ?_ | refine WL.ld4 0 rfl (by decide) rfl rfl rfl ?_ | refine WL.ld35 0 rfl (by decide) rfl rfl rfl rfl ?_)
    first
    | exact QE.ret1 _ _ rfl rfl (List.nil_sublist _) ⟨rfl, rfl⟩
    | skip
  · refine WC.cond _ rfl (fun h => ?_) (fun h => ?_)
    · have h1 : a.n 5 = 1 := by simpa using h
      repeat (first | refine WC.seq ?_ | refine WC.region ?_ | refine WC.ret ?_ | with_reducible refine QE.then_r ?_ | with_reducible refine QE.blk_r ?_ | refine WL.assign _ rfl (by decide) rfl ?_)
      exact QE.ret1 _ _ rfl rfl (List.nil_sublist _) ⟨by show _ = Value.int .i64 (if a.n 5 = 1 then 1 else 0); rw [if_pos h1], rfl⟩
    · have h1 : ¬ a.n 5 = 1 := by simpa using h
      repeat (first | refine WC.seq ?_ | refine WC.region ?_ | refine WC.skip ?_ | refine WC.ret ?_ | with_reducible refine QE.then_r ?_ | with_reducible refine QE.blk_r ?_ | refine WL.assign _ rfl (by decide) rfl ?_)
      exact QE.ret1 _ _ rfl rfl (List.nil_sublist _) ⟨by show _ = Value.int .i64 (if a.n 5 = 1 then 1 else 0); rw [if_neg h1], rfl⟩
  all_goals
    refine WL.alloc zP zPc rfl (by decide) zero35 rfl (fun g5 => ?_)
    refine WL.st35 0 (cs' := ((evC a.n (.slice A6 a.nums.length c6) (.slice A27 a.mem.length c27)).drop (0 + 15)).take 13) rfl rfl rfl rfl rfl rfl rfl rfl rfl ?_
    repeat (first | refine WC.seq ?_ | refine WC.region ?_ | refine WC.block ?_ | refine WC.skip ?_ | refine WC.ret ?_ | refine WL.nil ?_ | with_reducible refine QE.then_n ?_ | with_reducible refine QE.then_r ?_ | with_reducible refine QE.blk_r ?_ | refine WC.cond_t rfl ?_ | refine WC.cond_f rfl ?_ | refine WL.move _ rfl (by decide) rfl ?_ | refine WL.assign _ rfl (by decide) rfl ?_ | refine WL.bin _ _ _ rfl (by decide) rfl rfl (fun _ => rfl) ?_ | refine WL.fd35_1 rfl (by decide) rfl ?_ | refine WL.fd35_2 rfl (by decide) rfl ?_ | refine WL.fd35_3 rfl (by decide) rfl ?_ | refine WL.fd35_4 rfl (by decide) rfl ?_ | refine WL.fd35_5 rfl (by decide) rfl ?_ | refine WL.fd35_6 rfl (by decide) rfl ?_ | refine WL.fd35_7 rfl (by decide) rfl ?_ | refine WL.fd35_8 rfl (by decide) rfl ?_ | refine WL.fd35_10 rfl (by decide) rfl ?_ | refine WL.cv29_2 rfl (by decide) rfl ?_ | refine WL.ld3 0 rfl (by decide) rfl rfl rfl ?_ | refine WL.ld29 0 rfl (by decide) rfl rfl rfl ?_)
    exact QE.ret1 _ _ rfl rfl (List.nil_sublist _) ⟨rfl, rfl⟩
end Go.Proofs.Ytalafklnnohlgaa.Cod
