/- The law CodeBack. Condition: the arguments' lists stand as they are told. -/
import Derived.Test.YtalafklnnohlgaaCod14
namespace Go.Proofs.Ytalafklnnohlgaa.Cod
open Go.RowKit X Go.Proofs.YtalafklnnohlgaaW.PrintLast
open Oct hiding agg39 size39
set_option linter.unusedVariables false
set_option linter.unusedSimpArgs false

theorem zero_evV : evV zeroEv none 0 none 0 = zeroA := rfl
theorem take_len (l : List Int) (n : Nat) : (l.take n).length = min l.length n := by simp [Nat.min_comm]
theorem take_min (l : List Int) (n : Nat) : l.take (min l.length n) = l.take n := by
  rcases Nat.le_total l.length n with h | h
  · rw [Nat.min_eq_left h, List.take_length, List.take_of_length_le h]
  · rw [Nat.min_eq_right h]
set_option maxHeartbeats 8000000 in
set_option maxRecDepth 100000 in
theorem back_con (x : Ev) (A6 A27 B : Option Addr) (c6 c27 k : Nat) (b0 : List Int) (hx : cellsOk x c6 c27) (hk : b0.length ≤ k ∧ k ≤ maxLen) (hb0 : Byt b0) :
    Con Try.prog 14 #[evV x A6 c6 A27 c27, .slice B b0.length k] [] (fun w => EvRd w x A6 A27 ∧ Rds w B b0.length 1 (b8 b0)) (same (.bool true) []) := by
  simp only [maxLen] at hk
  refine Con.intro Try.func14 rfl Try.ntmps14 rfl (fun w hR => ?_)
  unfold evV
  repeat (first | refine WC.seq ?_ | refine WC.region ?_)
  refine WL.box _ (evC x.n (.slice A6 x.nums.length c6) (.slice A27 x.mem.length c27)) rfl (by decide) rfl rfl (fun b2 => ?_)
  repeat (first | refine WC.seq ?_ | refine WC.region ?_ | refine WL.assign _ rfl (by decide) rfl ?_)
  refine WL.call [] [] [] _ [] _ wakes_con rfl (by decide) rfl Try.func15 rfl rfl rfl rfl (.refl _) (fun _ _ => trivial) ?_
  rintro v H1 ⟨rfl, rfl⟩
  rw [List.nil_append]
  repeat (first | refine WC.seq ?_ | refine WC.region ?_ | refine WC.skip ?_ | refine WL.nil ?_ | with_reducible refine QE.then_n ?_ | refine WC.cond_f rfl ?_ | refine WL.un _ _ rfl (by decide) rfl (fun _ => rfl) ?_ | refine WL.ld37 0 rfl (by decide) rfl rfl rfl rfl ?_)
  refine WL.call [] [] [evV x A6 c6 A27 c27] _ [] _ (few_con x A6 A27 c6 c27 hx.1 hx.2) rfl (by decide) rfl Try.func16 rfl rfl rfl rfl (.refl _) (fun w hI => hR.1.kept hI.kp rfl) ?_
  rintro v H1 ⟨A1, c1, A2, c2, rfl, rfl⟩
  have hxm := few_max x
  generalize hx' : fewE x = x' at hxm ⊢
  simp only [List.cons_append, List.nil_append]
  unfold evV
  refine WL.alloc zeroA (evC zeroEv.n (.slice none 0 0) (.slice none 0 0)) rfl (by decide) zero37 rfl (fun g5 => ?_)
  refine WL.st37 0 (cs' := evC x'.n (.slice A1 x'.nums.length c1) (.slice A2 x'.mem.length c2)) rfl rfl rfl rfl rfl rfl rfl rfl rfl ?_
  repeat (first | refine WC.seq ?_ | refine WC.region ?_ | refine WL.ld37 0 rfl (by decide) rfl rfl rfl rfl ?_)
  refine WL.call [] [] [evV x' A1 c1 A2 c2] _ [] _ (encode_con x' A1 A2 c1 c2 hxm) rfl (by decide) rfl Try.func23 rfl rfl rfl rfl (.refl _) (fun w hI => ok_rows 1 2 rfl rfl hI) ?_
  rintro v H1 ⟨P1, p1, rfl, rfl, hlp⟩
  simp only [List.cons_append, List.nil_append]
  repeat (first | refine WL.nil ?_ | with_reducible refine QE.then_n ?_ | refine WL.move _ rfl (by decide) rfl ?_ | refine WL.assign _ rfl (by decide) rfl ?_ | refine WL.extract _ _ rfl (by decide) rfl (fun _ => rfl) ?_)
  refine WC.cut (σ := Unit) (fun _ => [(1, .slice B b0.length k)]) (fun _ => []) (fun _ => True) ?_ ?_
  · rintro _ _
    obtain ⟨b, hb⟩ : ∃ b, b = b0.take 300 := ⟨_, rfl⟩
    have hbl : b.length = min b0.length 300 := by rw [hb, take_len]
    have hbb : Byt b := by rw [hb]; exact byt_take hb0 _
    repeat (first | refine WC.seq ?_ | refine WC.region ?_ | refine WL.move _ rfl (by decide) rfl ?_ | refine WL.ln39 rfl (by decide) rfl ?_)
    refine WL.mn (b0.length : Int) 300 (b.length : Int) rfl (by decide) rfl rfl (by rw [hbl, ← mn_nat]; rfl) ?_
    refine WL.cuth B b0.length k b.length .i64 Try.underlying39 size5 (by omega) rfl (by decide) rfl rfl ?_
    repeat (first | refine WC.seq ?_ | refine WC.region ?_ | refine WL.move _ rfl (by decide) rfl ?_ | refine WL.assign _ rfl (by decide) rfl ?_)
    have hrb : ∀ {H : List Ck} {w' : World}, I ⟨w, fps []⟩ H w' → Rds w' B b.length 1 (b8 b) := fun hI => by
      have := rds_take (Oct.kept0 hR.2 hI.kp rfl) hk.1 b.length (by omega)
      rwa [b8_take, hbl, take_min, ← hb, ← hbl] at this
    refine WL.call [] [] [.slice B b.length k] _ [] _ (decode_con B k b (by omega) (by omega) hbb) rfl (by decide) rfl Try.func48 rfl rfl rfl rfl (.refl _) (fun w hI => hrb hI) ?_
    rintro v H1 ⟨ev, rfl, hx6, hx27, B6, k6, B27, k27, rfl, rfl⟩
    have herr := decP_err b
    obtain ⟨q, hq⟩ : ∃ q, decP b = q := ⟨_, rfl⟩
    rw [hq] at hx6 hx27 herr ⊢
    obtain ⟨er, e⟩ := q
    dsimp only at hx6 hx27 herr ⊢
    simp only [List.cons_append, List.nil_append]
    unfold evV
    repeat (first | refine WL.move _ rfl (by decide) rfl ?_ | refine WL.extract _ _ rfl (by decide) rfl (fun _ => rfl) ?_)
    refine WL.know (.agg (evC e.n (.slice B6 e.nums.length k6) (.slice B27 e.mem.length k27)).toArray) (s := 79) rfl rfl ?_
    refine WL.know (.int .i64 er) (s := 80) rfl rfl ?_
    refine WL.alloc zeroA (evC zeroEv.n (.slice none 0 0) (.slice none 0 0)) rfl (by decide) zero37 rfl (fun g9 => ?_)
    refine WL.st37 0 (cs' := evC e.n (.slice B6 e.nums.length k6) (.slice B27 e.mem.length k27)) rfl rfl rfl rfl rfl rfl rfl rfl rfl ?_
    rcases herr with rfl | ⟨rfl, rfl⟩ | ⟨rfl, rfl⟩
    · have hE := encP_back hbb (decP_0 hq)
      repeat (first | refine WC.seq ?_ | refine WC.region ?_ | refine WC.skip ?_ | refine WL.nil ?_ | with_reducible refine QE.then_n ?_ | refine WC.cond_f rfl ?_ | refine WL.move _ rfl (by decide) rfl ?_ | refine WL.assign _ rfl (by decide) rfl ?_ | refine WL.bin _ _ _ rfl (by decide) rfl rfl (fun _ => rfl) ?_ | refine WL.ld37 0 rfl (by decide) rfl rfl rfl rfl ?_)
      refine WL.call [] [] [evV e B6 k6 B27 k27] _ [] _ (encode_con e B6 B27 k6 k27 ⟨le_max hx6, le_max hx27⟩) rfl (by decide) rfl Try.func23 rfl rfl rfl rfl (.refl _) (fun w hI => ok_rows 1 2 rfl rfl hI) ?_
      rintro v H1 ⟨P3, p3, rfl, rfl, _⟩
      rw [(encB_of hE).1, (encB_of hE).2]
      simp only [List.cons_append, List.nil_append]
      repeat (first | refine WC.seq ?_ | refine WC.region ?_ | refine WL.move _ rfl (by decide) rfl ?_ | refine WL.assign _ rfl (by decide) rfl ?_ | refine WL.bin _ _ _ rfl (by decide) rfl rfl (fun _ => rfl) ?_ | refine WL.extract _ _ rfl (by decide) rfl (fun _ => rfl) ?_)
      refine WL.call [] [] [.slice P3 b.length p3, .slice B b.length k] _ [] _ (equalB_con P3 B p3 k b b hbb hbb) rfl (by decide) rfl Try.func19 rfl rfl rfl rfl (.refl _) (fun w hI => ⟨(row_reads hI (i := 0) rfl).2, hrb hI⟩) ?_
      rintro v H1 ⟨rfl, rfl⟩
      rw [List.nil_append, decide_eq_true rfl]
      repeat (first | refine WC.ret ?_ | refine WL.assign _ rfl (by decide) rfl ?_ | refine WL.pick _ _ rfl (by decide) rfl rfl ?_)
      exact QE.ret1 _ _ rfl rfl (List.nil_sublist _) ⟨rfl, rfl⟩
    · repeat (first | refine WC.seq ?_ | refine WC.region ?_ | refine WL.nil ?_ | with_reducible refine QE.then_n ?_ | refine WC.cond_t rfl ?_ | refine WL.move _ rfl (by decide) rfl ?_ | refine WL.assign _ rfl (by decide) rfl ?_ | refine WL.bin _ _ _ rfl (by decide) rfl rfl (fun _ => rfl) ?_ | refine WL.ld37 0 rfl (by decide) rfl rfl rfl rfl ?_)
      refine WL.build [] zeroA rfl (by decide) rfl build37 ?_
      refine WL.call [] [] [evV zeroEv B6 k6 B27 k27, evV zeroEv none 0 none 0] _ [] _ (sameE_con zeroEv zeroEv B6 B27 none none k6 k27 0 0 ⟨Nat.zero_le _, Nat.zero_le _⟩ ⟨Nat.zero_le _, Nat.zero_le _⟩) rfl (by decide) rfl Try.func24 rfl rfl rfl rfl (.refl _) (fun w hI => ⟨(ok_rows 1 2 rfl rfl hI).1, (upOk w 0).1⟩) ?_
      rintro v H1 ⟨rfl, rfl⟩
      rw [List.nil_append, same_refl]
      repeat (first | refine WC.ret ?_ | with_reducible refine QE.then_r ?_ | refine WL.move _ rfl (by decide) rfl ?_ | refine WL.assign _ rfl (by decide) rfl ?_ | refine WL.bin _ _ _ rfl (by decide) rfl rfl (fun _ => rfl) ?_ | refine WL.off rfl (by decide) ?_ | refine WL.pick _ _ rfl (by decide) rfl rfl ?_)
      exact QE.ret1 _ _ rfl rfl (List.nil_sublist _) ⟨rfl, rfl⟩
    · repeat (first | refine WC.seq ?_ | refine WC.region ?_ | refine WL.nil ?_ | with_reducible refine QE.then_n ?_ | refine WC.cond_t rfl ?_ | refine WL.move _ rfl (by decide) rfl ?_ | refine WL.assign _ rfl (by decide) rfl ?_ | refine WL.bin _ _ _ rfl (by decide) rfl rfl (fun _ => rfl) ?_ | refine WL.ld37 0 rfl (by decide) rfl rfl rfl rfl ?_)
      refine WL.build [] zeroA rfl (by decide) rfl build37 ?_
      refine WL.call [] [] [evV zeroEv B6 k6 B27 k27, evV zeroEv none 0 none 0] _ [] _ (sameE_con zeroEv zeroEv B6 B27 none none k6 k27 0 0 ⟨Nat.zero_le _, Nat.zero_le _⟩ ⟨Nat.zero_le _, Nat.zero_le _⟩) rfl (by decide) rfl Try.func24 rfl rfl rfl rfl (.refl _) (fun w hI => ⟨(ok_rows 1 2 rfl rfl hI).1, (upOk w 0).1⟩) ?_
      rintro v H1 ⟨rfl, rfl⟩
      rw [List.nil_append, same_refl]
      repeat (first | refine WC.ret ?_ | with_reducible refine QE.then_r ?_ | refine WL.move _ rfl (by decide) rfl ?_ | refine WL.assign _ rfl (by decide) rfl ?_ | refine WL.bin _ _ _ rfl (by decide) rfl rfl (fun _ => rfl) ?_ | refine WL.pick _ _ rfl (by decide) rfl rfl ?_)
      exact QE.ret1 _ _ rfl rfl (List.nil_sublist _) ⟨rfl, rfl⟩
  · cases hp : encP x' with
    | none =>
      rw [(encB_none hp).1, (encB_none hp).2]
      repeat (first | refine WC.seq ?_ | refine WC.region ?_ | refine WC.skip ?_ | refine WL.nil ?_ | with_reducible refine QE.then_n ?_ | refine WC.cond_f rfl ?_ | refine WL.move _ rfl (by decide) rfl ?_ | refine WL.bin _ _ _ rfl (by decide) rfl rfl (fun _ => rfl) ?_)
      exact QE.cut () trivial (.cons rfl .nil) (List.nil_sublist _)
    | some p =>
    rw [(encB_of hp).1] at hlp
    rw [(encB_of hp).1, (encB_of hp).2]
    have hbp : Byt p := by have := byt_encB x'; rwa [(encB_of hp).1] at this
    obtain ⟨_, _, e, hpe, hag⟩ := encP_some hp
    have hsm : sameE x' e = true := (same_iff _ _).2 hag.symm
    have hpp : decP p = (0, e) := decP_good hpe
    repeat (first | refine WC.seq ?_ | refine WC.region ?_ | refine WL.nil ?_ | with_reducible refine QE.then_n ?_ | refine WC.cond_t rfl ?_ | refine WL.move _ rfl (by decide) rfl ?_ | refine WL.bin _ _ _ rfl (by decide) rfl rfl (fun _ => rfl) ?_)
    refine WL.fact (p.length ≤ p1) (fun w hI => (row_reads hI (i := 0) rfl).1) (fun hpc => ?_)
    refine WL.call [] [] [.slice P1 p.length p1] _ [] _ (decode_con P1 p1 p hpc (by omega) hbp) rfl (by decide) rfl Try.func48 rfl rfl rfl rfl (.refl _) (fun w hI => (row_reads hI (i := 0) rfl).2) ?_
    rintro v H1 ⟨ev, rfl, hx6, hx27, B6, k6, B27, k27, rfl, rfl⟩
    rw [hpp] at hx6 hx27 ⊢
    dsimp only at hx6 hx27 ⊢
    simp only [List.cons_append, List.nil_append]
    unfold evV
    repeat (first | refine WL.move _ rfl (by decide) rfl ?_ | refine WL.extract _ _ rfl (by decide) rfl (fun _ => rfl) ?_)
    refine WL.know (.agg (evC e.n (.slice B6 e.nums.length k6) (.slice B27 e.mem.length k27)).toArray) (s := 30) rfl rfl ?_
    refine WL.alloc zeroA (evC zeroEv.n (.slice none 0 0) (.slice none 0 0)) rfl (by decide) zero37 rfl (fun g8 => ?_)
    refine WL.st37 0 (cs' := evC e.n (.slice B6 e.nums.length k6) (.slice B27 e.mem.length k27)) rfl rfl rfl rfl rfl rfl rfl rfl rfl ?_
    repeat (first | refine WC.seq ?_ | refine WC.region ?_ | refine WL.move _ rfl (by decide) rfl ?_ | refine WL.assign _ rfl (by decide) rfl ?_ | refine WL.bin _ _ _ rfl (by decide) rfl rfl (fun _ => rfl) ?_)
    refine WL.ld37 4 rfl (by decide) rfl rfl rfl rfl ?_
    repeat (refine WL.ld37 0 rfl (by decide) rfl rfl rfl rfl ?_)
    refine WL.call [] [] [evV x' A1 c1 A2 c2, evV e B6 k6 B27 k27] _ [] _ (sameE_con x' e A1 A2 B6 B27 c1 c2 k6 k27 hxm ⟨le_max hx6, le_max hx27⟩) rfl (by decide) rfl Try.func24 rfl rfl rfl rfl (.refl _) (fun w hI => ⟨(ok_rows 5 6 rfl rfl hI).1, (ok_rows 1 2 rfl rfl hI).1⟩) ?_
    rintro v H1 ⟨rfl, rfl⟩
    rw [List.nil_append, hsm]
    repeat (first | refine WL.move _ rfl (by decide) rfl ?_ | refine WL.un _ _ rfl (by decide) rfl (fun _ => rfl) ?_ | refine WL.pick _ _ rfl (by decide) rfl rfl ?_)
    refine WL.ld37 4 rfl (by decide) rfl rfl rfl rfl ?_
    refine WL.call [] [] [evV x' A1 c1 A2 c2] _ [] _ (check_con x' A1 A2 c1 c2 hxm) rfl (by decide) rfl Try.func53 rfl rfl rfl rfl (.refl _) (fun w hI => ok_rows 5 6 rfl rfl hI) ?_
    rintro v H1 ⟨rfl, rfl⟩
    rw [List.nil_append, (encB_of hp).2]
    repeat (first | refine WC.seq ?_ | refine WC.region ?_ | refine WC.block ?_ | refine WC.skip ?_ | refine WL.nil ?_ | with_reducible refine QE.then_n ?_ | refine WC.cond_f rfl ?_ | refine WL.move _ rfl (by decide) rfl ?_ | refine WL.bin _ _ _ rfl (by decide) rfl rfl (fun _ => rfl) ?_ | refine WL.pick _ _ rfl (by decide) rfl rfl ?_ | refine WL.ln39 rfl (by decide) rfl ?_)
    refine WC.loop (σ := Nat) (fun i => [(47, .int .i64 i), (46, .int .i64 p.length), (6, .slice P1 p.length p1), (1, .slice B b0.length k)]) (fun _ => [.row (.slice P1 p.length p1) 5 1 p.length (b8 p)]) (fun i => i ≤ p.length) (fun i => p.length - i) 0 (Nat.zero_le _) (.cons rfl (.cons rfl (.cons rfl (.cons rfl .nil)))) (.cons _ (.cons _ (.cons _ (.cons_cons _ (List.nil_sublist _))))) ?_
    intro i hi
    repeat (first | refine WC.seq ?_ | refine WC.region ?_ | refine WL.bin _ _ _ rfl (by decide) rfl rfl (fun _ => rfl) ?_)
    refine WC.cond _ rfl (fun hlt => ?_) (fun hlt => ?_)
    · have hlt : (i : Int) < p.length := of_decide_eq_true hlt
      have hlt' : i < p.length := by omega
      repeat (first | refine WC.seq ?_ | refine WC.region ?_ | refine WC.block ?_ | refine WC.skip ?_ | refine WL.move _ rfl (by decide) rfl ?_ | refine WL.assign _ rfl (by decide) rfl ?_)
      refine WL.cuth P1 p.length p1 i .i64 Try.underlying39 size5 (by omega) rfl (by decide) rfl rfl ?_
      skip
      have hti : (p.take i).length = i := by rw [take_len]; omega
      refine WL.call [] [] [.slice P1 (p.take i).length p1] _ [] _ (decode_con P1 p1 (p.take i) (by omega) (by omega) (byt_take hbp i)) rfl (by decide) rfl Try.func48 rfl rfl (by simp only [List.map_cons, List.map_nil, hti]; rfl) rfl (.refl _) (fun w hI => by
        have := rds_take (row_reads hI (i := 0) rfl).2 hpc i hi
        rw [b8_take] at this
        rw [hti]; exact this) ?_
      rintro v H1 ⟨ev, rfl, hy6, hy27, D6, d6, D27, d27, rfl, rfl⟩
      rw [decP_less hpe hlt']
      simp only [List.cons_append, List.nil_append]
      unfold evV
      repeat (first | refine WL.move _ rfl (by decide) rfl ?_ | refine WL.extract _ _ rfl (by decide) rfl (fun _ => rfl) ?_)
      refine WL.know (.agg (evC zeroEv.n (.slice D6 zeroEv.nums.length d6) (.slice D27 zeroEv.mem.length d27)).toArray) (s := 55) rfl rfl ?_
      refine WL.alloc zeroA (evC zeroEv.n (.slice none 0 0) (.slice none 0 0)) rfl (by decide) zero37 rfl (fun g11 => ?_)
      refine WL.st37 0 (cs' := evC zeroEv.n (.slice D6 zeroEv.nums.length d6) (.slice D27 zeroEv.mem.length d27)) rfl rfl rfl rfl rfl rfl rfl rfl rfl ?_
      repeat (first | refine WC.seq ?_ | refine WC.region ?_ | refine WC.skip ?_ | refine WL.nil ?_ | with_reducible refine QE.then_n ?_ | refine WC.cond_f rfl ?_ | refine WL.move _ rfl (by decide) rfl ?_ | refine WL.assign _ rfl (by decide) rfl ?_ | refine WL.bin _ _ _ rfl (by decide) rfl rfl (fun _ => rfl) ?_)
      exact QE.round (i + 1) hlt' (by omega) (.eq rfl (by congr 1; rw [wr_i64 (by omega) (by omega)]; simp) (.cons rfl (.cons rfl (.cons rfl .nil)))) (.cons _ (.cons _ (.cons _ (.refl _))))
    · repeat (first | refine WC.seq ?_ | refine WC.region ?_ | refine WC.exit ?_)
      refine WL.buildS 0 5 1 [] [] rfl (by decide) rfl rfl rfl (fun w => by kernel_rfl) (fun gb => ?_)
      repeat (refine WL.move _ rfl (by decide) rfl ?_)
      refine WL.append 0 5 1 1 0 p.length p1 (.int .u8 0) _ P1 [] (b8 p) rfl (by decide) rfl rfl Try.underlying39 info5 rfl (by decide) rfl (fun w hI => ⟨hpc, (row_reads hI (i := 1) rfl).2⟩) (b8_one p) (by omega) (by omega) (fun A3 c3 => ?_)
      refine WL.buildS 1 5 1 [(0, .int .u8 0)] [.int .u8 0] rfl (by decide) rfl rfl rfl (fun w => by kernel_rfl) (fun gb2 => ?_)
      refine WL.append 1 5 1 1 (0 + p.length) 1 1 (.int .u8 0) _ _ ([] ++ b8 p) [.int .u8 0] rfl (by decide) rfl rfl Try.underlying39 info5 rfl (by decide) rfl (fun w hI => row_reads hI (i := 0) rfl) (by simp [Value.oneCell']) (by omega) (by omega) (fun A4 c4 => ?_)
      have hpl : (p ++ [0]).length = 0 + p.length + 1 := by simp
      have hpr : b8 (p ++ [0]) = [] ++ b8 p ++ [.int .u8 0] := by simp [b8]
      rw [← hpl, ← hpr]
      refine WL.fact ((p ++ [0]).length ≤ c4) (fun w hI => (row_reads hI (i := 1) rfl).1) (fun hc4 => ?_)
      refine WL.call [] [] [.slice A4 (p ++ [0]).length c4] _ [] _ (decode_con A4 c4 (p ++ [0]) hc4 (by rw [hpl]; omega) (fun u hu => by
        rcases List.mem_append.1 hu with hu | hu
        · exact hbp u hu
        · simp at hu; omega)) rfl (by decide) rfl Try.func48 rfl rfl rfl rfl (.refl _) (fun w hI => (row_reads hI (i := 1) rfl).2) ?_
      rintro v H1 ⟨ev, rfl, hy6, hy27, D6, d6, D27, d27, rfl, rfl⟩
      rw [decP_more hpe]
      simp only [List.cons_append, List.nil_append]
      unfold evV
      repeat (first | refine WL.move _ rfl (by decide) rfl ?_ | refine WL.extract _ _ rfl (by decide) rfl (fun _ => rfl) ?_)
      refine WL.know (.agg (evC zeroEv.n (.slice D6 zeroEv.nums.length d6) (.slice D27 zeroEv.mem.length d27)).toArray) (s := 67) rfl rfl ?_
      refine WL.alloc zeroA (evC zeroEv.n (.slice none 0 0) (.slice none 0 0)) rfl (by decide) zero37 rfl (fun g13 => ?_)
      refine WL.st37 0 (cs' := evC zeroEv.n (.slice D6 zeroEv.nums.length d6) (.slice D27 zeroEv.mem.length d27)) rfl rfl rfl rfl rfl rfl rfl rfl rfl ?_
      repeat (first | refine WC.seq ?_ | refine WC.region ?_ | refine WC.skip ?_ | refine WL.nil ?_ | with_reducible refine QE.then_n ?_ | refine WC.cond_f rfl ?_ | refine WL.move _ rfl (by decide) rfl ?_ | refine WL.assign _ rfl (by decide) rfl ?_ | refine WL.bin _ _ _ rfl (by decide) rfl rfl (fun _ => rfl) ?_)
      exact QE.cut () trivial (.cons rfl .nil) (List.nil_sublist _)
end Go.Proofs.Ytalafklnnohlgaa.Cod
