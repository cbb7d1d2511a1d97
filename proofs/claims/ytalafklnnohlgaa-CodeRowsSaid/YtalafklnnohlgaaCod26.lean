/- The references' Decode. Conditions: the bytes are such, and not too many. -/
import Derived.Test.YtalafklnnohlgaaCod25
namespace Go.Proofs.Ytalafklnnohlgaa.Cod
open Go.RowKit X Go.Proofs.YtalafklnnohlgaaW.PrintLast
open Oct hiding agg39 size39
set_option linter.unusedVariables false
set_option linter.unusedSimpArgs false

/-- The errors that a taker knows. -/
def ErO (er : Int) : Prop := er = 0 ∨ er = 7 ∨ er = 361
theorem nm_er {l : List Int} {wk : Nat} {er : Int} {w : Nat} (h : ErO er) : ErO (nmP l wk er w).2.2 := by
  unfold nmP
  split
  · split
    · exact .inl rfl
    · exact .inr (.inl rfl)
  · exact h
theorem ls_er {l : List Int} : ∀ (k wk : Nat) (er : Int) (xs : List Int), ErO er → ErO (lsGo l k wk er xs).2.1
  | 0, _, _, _, h => h
  | k + 1, wk, er, xs, h => by
    unfold lsGo
    split
    · exact ls_er k _ _ _ (nm_er (.inl rfl))
    · exact h
theorem step_er {l : List Int} {c : Int} {wk : Nat} {er : Int} {e : Ev} (h : ErO er) : ErO (stepT l c wk er e).2.1 := by
  have hl : ErO (lsP l wk er).2.1 := by
    unfold lsP
    refine ls_er _ _ _ _ ?_
    split
    · exact .inr (.inr rfl)
    · exact nm_er h
  unfold stepT
  split
  · exact nm_er (nm_er h)
  split
  · exact nm_er (nm_er h)
  split
  · exact hl
  split
  · exact hl
  dsimp only
  split
  · exact .inr (.inr rfl)
  · exact nm_er h
theorem go_er {l : List Int} : ∀ (cs : List Int) (wk : Nat) (er : Int) (e : Ev), ErO er → ErO (goT l cs wk er e).2.1
  | [], _, _, _, h => h
  | c :: cs, wk, er, e, h => by
    unfold goT
    split
    · exact go_er cs _ _ _ (step_er h)
    · exact h
theorem er_ite {p : Prop} [Decidable p] {a : Int} (h : ErO a) : ErO (if p then 361 else a) := by
  split
  · exact .inr (.inr rfl)
  · exact h
theorem act_er {l : List Int} {wk : Nat} {er : Int} (h : ErO er) : ErO (actP l wk er).2.1 := by
  unfold actP
  dsimp only
  refine go_er _ _ _ _ ?_
  refine er_ite ?_
  by_cases h3 : (nmP l wk er 1).1 = 3
  · rw [if_pos h3]; exact er_ite (nm_er h)
  · rw [if_neg h3]; exact nm_er (er_ite (nm_er h))
theorem res_act {b : List Int} {wk : Nat} {er : Int} {e : Ev} (he : ErO er) (h : resT er (b.drop wk) e = rdE b) (hw : wk ≤ b.length) :
    (er = 361 ∧ decP b = (361, zeroEv)) ∨ (er = 7 ∧ decP b = (7, zeroEv)) ∨ (er = 0 ∧ wk < b.length ∧ decP b = (361, zeroEv)) ∨ (er = 0 ∧ wk = b.length ∧ decP b = (0, e)) := by
  unfold decP
  rw [← h]
  rcases he with rfl | rfl | rfl
  · right; right
    rw [show resT 0 (b.drop wk) e = .good (b.drop wk) e from rfl]
    rcases Nat.lt_or_ge wk b.length with h1 | h1
    · left
      rw [List.drop_eq_getElem_cons h1]
      exact ⟨rfl, h1, rfl⟩
    · right
      rw [List.drop_eq_nil_of_le h1]
      exact ⟨rfl, by omega, rfl⟩
  · exact .inr (.inl ⟨rfl, rfl⟩)
  · exact .inl ⟨rfl, rfl⟩
set_option maxHeartbeats 8000000 in
set_option maxRecDepth 100000 in
theorem decodeR_con (A : Option Addr) (c : Nat) (b : List Int) (hc : b.length ≤ c) (hn : b.length ≤ 140737488355328) (hb : Byt b) :
    Con Try.prog 49 #[.slice A b.length c] [] (fun w => Rds w A b.length 1 (b8 b)) (fun v H' => ∃ ev, v = .tuple #[ev, .int .i64 (decP b).1] ∧ evOut (decP b).2 ev H') := by
  refine Con.intro Try.func49 rfl Try.ntmps49 rfl (fun w hR => ?_)
  have hbr : BRd w [] A b := ⟨hR, fun _ ad _ hh => by obtain ⟨_, h, _⟩ := hh; cases h⟩
  repeat (first | refine WC.seq ?_ | refine WC.region ?_)
  refine WL.alloc zeroA (evC zeroEv.n (.slice none 0 0) (.slice none 0 0)) rfl (by decide) zero37 rfl (fun g2 => ?_)
  repeat (first | refine WC.seq ?_ | refine WC.region ?_ | refine WL.move _ rfl (by decide) rfl ?_ | refine WL.assign _ rfl (by decide) rfl ?_)
  refine WL.build [(0, .slice A b.length c)] (.agg #[.slice A b.length c, .int .i64 0]) rfl (by decide) rfl (fun w => by kernel_rfl) ?_
  refine WL.box _ [.slice A b.length c, .int .i64 0] rfl (by decide) rfl rfl (fun tg => ?_)
  repeat (first | refine WC.seq ?_ | refine WC.region ?_ | refine WL.move _ rfl (by decide) rfl ?_ | refine WL.assign _ rfl (by decide) rfl ?_)
  refine WL.call [] [] [pt tg] _ (tkH tg A c b.length 0 0) [.blk g2 (evC zeroEv.n (.slice none 0 0) (.slice none 0 0)) 37] (act_con tg A A c b 0 0 hb hc hn (Nat.zero_le _) (.zero A _)) rfl (by decide) rfl Try.func62 rfl rfl rfl rfl (.refl _) (fun w hI => hbr.nows rfl hI (fun q hq => List.mem_append_left _ hq)) ?_
  rintro v H1 ⟨B, A6, c6, A27, c27, wk, er, e, hact, rfl, rfl, ha, hk, hx6, hx27⟩
  have hrd := act_rd hb (Nat.zero_le _) hact
  have her := act_er (l := b) (wk := 0) (er := 0) (.inl rfl)
  rw [hact] at her
  rw [List.drop_zero] at hrd
  have hres := res_act her hrd.1 hrd.2
  unfold tkH rows evV
  simp only [List.cons_append, List.nil_append]
  refine WL.alloc zeroA (evC zeroEv.n (.slice none 0 0) (.slice none 0 0)) rfl (by decide) zero37 rfl (fun g5 => ?_)
  refine WL.st37 0 (cs' := evC e.n (.slice A6 e.nums.length c6) (.slice A27 e.mem.length c27)) rfl rfl rfl rfl rfl rfl rfl rfl rfl ?_
  refine WL.perm [.blk tg [.slice B (b.length - wk) (c - wk), .int .i64 er] 101, .blk g5 (evC e.n (.slice A6 e.nums.length c6) (.slice A27 e.mem.length c27)) 37, .blk g2 (evC zeroEv.n (.slice none 0 0) (.slice none 0 0)) 37, .row (.slice A6 e.nums.length c6) 3 1 e.nums.length (i64s e.nums), .row (.slice A27 e.mem.length c27) 3 1 e.mem.length (i64s e.mem)] (.trans (.swap _ _ _) (.cons _ (.cons _ (List.perm_append_comm (l₁ := [_]) (l₂ := [_, _]))))) ?_
  have hzero : ∀ er' : Int, decP b = (er', zeroEv) → evOut (decP b).2 (.agg (evC zeroEv.n (.slice none 0 0) (.slice none 0 0)).toArray) [.row (.slice none 0 0) 3 1 0 [], .row (.slice none 0 0) 3 1 0 []] := fun er' h => by
    rw [h]; exact ⟨Nat.zero_le _, Nat.zero_le _, none, 0, none, 0, rfl, rfl⟩
  rcases hres with ⟨rfl, hd⟩ | ⟨rfl, hd⟩ | ⟨rfl, hlt, hd⟩ | ⟨rfl, hq, hd⟩
  · skip
    repeat (first | refine WC.seq ?_ | refine WC.region ?_ | refine WC.skip ?_ | refine WL.nil ?_ | with_reducible refine QE.then_n ?_ | refine WC.cond_t rfl ?_ | refine WC.cond_f rfl ?_ | refine WL.move _ rfl (by decide) rfl ?_ | refine WL.bin _ _ _ rfl (by decide) rfl rfl (fun _ => rfl) ?_ | refine WL.nilc _ rfl (by decide) rfl ?_ | refine WL.off rfl (by decide) ?_ | refine WL.pick _ _ rfl (by decide) rfl rfl ?_ | refine WL.fd101_1 rfl (by decide) rfl ?_ | refine WL.ld40 0 rfl (by decide) rfl rfl rfl ?_)
    refine WC.draw 7 #[false, false, false, false, false, false, false] [.blk tg [.slice B (b.length - wk) (c - wk), .int .i64 361] 101] [] (by kernel_rfl) rfl rfl (by repeat (first | exact List.Sublist.refl _ | exact List.nil_sublist _ | refine List.Sublist.cons_cons _ ?_ | refine List.Sublist.cons _ ?_)) ?_
    refine WA.val 0 #[true, false, false, false, false, false, false] zeroA rfl rfl (by decide) (by kernel_rfl) (by repeat (first | with_reducible refine Qp.then ?_ | with_reducible refine Qp.blk ?_ | with_reducible exact Qp.body)) (fun a w hF => by simp only [execOp]; simp [build37 w]) ?_
    refine WA.move 1 #[true, true, false, false, false, false, false] _ rfl rfl rfl (by decide) (by kernel_rfl) (by repeat (first | with_reducible refine Qp.then ?_ | with_reducible refine Qp.blk ?_ | with_reducible exact Qp.body)) ?_
    refine WA.nilc 2 #[true, true, true, false, false, false, false] _ rfl rfl rfl (by decide) (by kernel_rfl) (by repeat (first | with_reducible refine Qp.then ?_ | with_reducible refine Qp.blk ?_ | with_reducible exact Qp.body)) ?_
    refine WA.faddr 3 #[true, true, true, true, false, false, false] _ _ rfl (fa101_1 _ _) rfl rfl (by decide) (by kernel_rfl) (by repeat (first | with_reducible refine Qp.then ?_ | with_reducible refine Qp.blk ?_ | with_reducible exact Qp.body)) ?_
    refine WA.load 4 #[true, true, true, true, true, false, false] 0 _ _ _ _ _ rfl rfl (by decide) (by repeat (first | exact List.Sublist.refl _ | exact List.nil_sublist _ | refine List.Sublist.cons_cons _ ?_ | refine List.Sublist.cons _ ?_)) (by kernel_rfl) (by repeat (first | with_reducible refine Qp.then ?_ | with_reducible refine Qp.blk ?_ | with_reducible exact Qp.body)) rfl agg40 rfl rfl ?_
    refine WA.storeK 5 #[true, true, true, true, true, true, false] 2 g2 0 _ _ (evC zeroEv.n (.slice none 0 0) (.slice none 0 0)) _ _ rfl rfl (by kernel_rfl) rfl rfl rfl rfl rfl size37 rfl rfl rfl (by repeat (first | exact List.Sublist.refl _ | exact List.nil_sublist _ | refine List.Sublist.cons_cons _ ?_ | refine List.Sublist.cons _ ?_)) ?_
    refine WA.assign 6 #[true, true, true, true, true, true, true] _ rfl rfl rfl (by decide) (by kernel_rfl) (by repeat (first | with_reducible refine Qp.then ?_ | with_reducible refine Qp.blk ?_ | with_reducible exact Qp.body)) ?_
    refine WA.done (by kernel_rfl) ?_
    repeat (first | refine WC.ret ?_ | with_reducible refine QE.then_r ?_)
    refine QE.nilrow 3 1 (QE.nilrow 3 1 ?_)
    exact QE.retc2 4 g2 29 (evC zeroEv.n (.slice none 0 0) (.slice none 0 0)) 37 (.int .i64 361) [_, _] rfl agg37 size37 rfl rfl rfl rfl (.cons_cons _ (.cons_cons _ (List.nil_sublist _))) ⟨_, by rw [hd], hzero _ hd⟩
  · skip
    repeat (first | refine WC.seq ?_ | refine WC.region ?_ | refine WC.skip ?_ | refine WL.nil ?_ | with_reducible refine QE.then_n ?_ | refine WC.cond_t rfl ?_ | refine WC.cond_f rfl ?_ | refine WL.move _ rfl (by decide) rfl ?_ | refine WL.bin _ _ _ rfl (by decide) rfl rfl (fun _ => rfl) ?_ | refine WL.nilc _ rfl (by decide) rfl ?_ | refine WL.off rfl (by decide) ?_ | refine WL.pick _ _ rfl (by decide) rfl rfl ?_ | refine WL.fd101_1 rfl (by decide) rfl ?_ | refine WL.ld40 0 rfl (by decide) rfl rfl rfl ?_)
    refine WC.draw 7 #[false, false, false, false, false, false, false] [.blk tg [.slice B (b.length - wk) (c - wk), .int .i64 7] 101] [] (by kernel_rfl) rfl rfl (by repeat (first | exact List.Sublist.refl _ | exact List.nil_sublist _ | refine List.Sublist.cons_cons _ ?_ | refine List.Sublist.cons _ ?_)) ?_
    refine WA.val 0 #[true, false, false, false, false, false, false] zeroA rfl rfl (by decide) (by kernel_rfl) (by repeat (first | with_reducible refine Qp.then ?_ | with_reducible refine Qp.blk ?_ | with_reducible exact Qp.body)) (fun a w hF => by simp only [execOp]; simp [build37 w]) ?_
    refine WA.move 1 #[true, true, false, false, false, false, false] _ rfl rfl rfl (by decide) (by kernel_rfl) (by repeat (first | with_reducible refine Qp.then ?_ | with_reducible refine Qp.blk ?_ | with_reducible exact Qp.body)) ?_
    refine WA.nilc 2 #[true, true, true, false, false, false, false] _ rfl rfl rfl (by decide) (by kernel_rfl) (by repeat (first | with_reducible refine Qp.then ?_ | with_reducible refine Qp.blk ?_ | with_reducible exact Qp.body)) ?_
    refine WA.faddr 3 #[true, true, true, true, false, false, false] _ _ rfl (fa101_1 _ _) rfl rfl (by decide) (by kernel_rfl) (by repeat (first | with_reducible refine Qp.then ?_ | with_reducible refine Qp.blk ?_ | with_reducible exact Qp.body)) ?_
    refine WA.load 4 #[true, true, true, true, true, false, false] 0 _ _ _ _ _ rfl rfl (by decide) (by repeat (first | exact List.Sublist.refl _ | exact List.nil_sublist _ | refine List.Sublist.cons_cons _ ?_ | refine List.Sublist.cons _ ?_)) (by kernel_rfl) (by repeat (first | with_reducible refine Qp.then ?_ | with_reducible refine Qp.blk ?_ | with_reducible exact Qp.body)) rfl agg40 rfl rfl ?_
    refine WA.storeK 5 #[true, true, true, true, true, true, false] 2 g2 0 _ _ (evC zeroEv.n (.slice none 0 0) (.slice none 0 0)) _ _ rfl rfl (by kernel_rfl) rfl rfl rfl rfl rfl size37 rfl rfl rfl (by repeat (first | exact List.Sublist.refl _ | exact List.nil_sublist _ | refine List.Sublist.cons_cons _ ?_ | refine List.Sublist.cons _ ?_)) ?_
    refine WA.assign 6 #[true, true, true, true, true, true, true] _ rfl rfl rfl (by decide) (by kernel_rfl) (by repeat (first | with_reducible refine Qp.then ?_ | with_reducible refine Qp.blk ?_ | with_reducible exact Qp.body)) ?_
    refine WA.done (by kernel_rfl) ?_
    repeat (first | refine WC.ret ?_ | with_reducible refine QE.then_r ?_)
    refine QE.nilrow 3 1 (QE.nilrow 3 1 ?_)
    exact QE.retc2 4 g2 29 (evC zeroEv.n (.slice none 0 0) (.slice none 0 0)) 37 (.int .i64 7) [_, _] rfl agg37 size37 rfl rfl rfl rfl (.cons_cons _ (.cons_cons _ (List.nil_sublist _))) ⟨_, by rw [hd], hzero _ hd⟩
  · repeat (first | refine WC.seq ?_ | refine WC.region ?_ | refine WL.nil ?_ | with_reducible refine QE.then_n ?_ | refine WL.move _ rfl (by decide) rfl ?_ | refine WL.bin _ _ _ rfl (by decide) rfl rfl (fun _ => rfl) ?_ | refine WL.nilc _ rfl (by decide) rfl ?_ | refine WL.pick _ _ rfl (by decide) rfl rfl ?_ | refine WL.fd101_0 rfl (by decide) rfl ?_ | refine WL.fd101_1 rfl (by decide) rfl ?_ | refine WL.ln39 rfl (by decide) rfl ?_ | refine WL.ld39 0 rfl (by decide) rfl rfl rfl ?_ | refine WL.ld40 0 rfl (by decide) rfl rfl rfl ?_)
    refine WC.cond_t (by show some (Value.bool (decide _)) = _; rw [decide_eq_true (by omega)]) ?_
    repeat (first | refine WC.seq ?_ | refine WC.region ?_ | refine WL.nil ?_ | with_reducible refine QE.then_n ?_ | refine WC.cond_t rfl ?_ | refine WL.move _ rfl (by decide) rfl ?_ | refine WL.bin _ _ _ rfl (by decide) rfl rfl (fun _ => rfl) ?_ | refine WL.nilc _ rfl (by decide) rfl ?_ | refine WL.fd101_1 rfl (by decide) rfl ?_ | refine WL.ld40 0 rfl (by decide) rfl rfl rfl ?_ | refine WL.st40 0 rfl rfl rfl rfl rfl rfl rfl rfl rfl ?_)
    refine WC.draw 7 #[false, false, false, false, false, false, false] [.blk tg [.slice B (b.length - wk) (c - wk), .int .i64 361] 101] [] (by kernel_rfl) rfl rfl (by repeat (first | exact List.Sublist.refl _ | exact List.nil_sublist _ | refine List.Sublist.cons_cons _ ?_ | refine List.Sublist.cons _ ?_)) ?_
    refine WA.val 0 #[true, false, false, false, false, false, false] zeroA rfl rfl (by decide) (by kernel_rfl) (by repeat (first | with_reducible refine Qp.then ?_ | with_reducible refine Qp.blk ?_ | with_reducible exact Qp.body)) (fun a w hF => by simp only [execOp]; simp [build37 w]) ?_
    refine WA.move 1 #[true, true, false, false, false, false, false] _ rfl rfl rfl (by decide) (by kernel_rfl) (by repeat (first | with_reducible refine Qp.then ?_ | with_reducible refine Qp.blk ?_ | with_reducible exact Qp.body)) ?_
    refine WA.nilc 2 #[true, true, true, false, false, false, false] _ rfl rfl rfl (by decide) (by kernel_rfl) (by repeat (first | with_reducible refine Qp.then ?_ | with_reducible refine Qp.blk ?_ | with_reducible exact Qp.body)) ?_
    refine WA.faddr 3 #[true, true, true, true, false, false, false] _ _ rfl (fa101_1 _ _) rfl rfl (by decide) (by kernel_rfl) (by repeat (first | with_reducible refine Qp.then ?_ | with_reducible refine Qp.blk ?_ | with_reducible exact Qp.body)) ?_
    refine WA.load 4 #[true, true, true, true, true, false, false] 0 _ _ _ _ _ rfl rfl (by decide) (by repeat (first | exact List.Sublist.refl _ | exact List.nil_sublist _ | refine List.Sublist.cons_cons _ ?_ | refine List.Sublist.cons _ ?_)) (by kernel_rfl) (by repeat (first | with_reducible refine Qp.then ?_ | with_reducible refine Qp.blk ?_ | with_reducible exact Qp.body)) rfl agg40 rfl rfl ?_
    refine WA.storeK 5 #[true, true, true, true, true, true, false] 2 g2 0 _ _ (evC zeroEv.n (.slice none 0 0) (.slice none 0 0)) _ _ rfl rfl (by kernel_rfl) rfl rfl rfl rfl rfl size37 rfl rfl rfl (by repeat (first | exact List.Sublist.refl _ | exact List.nil_sublist _ | refine List.Sublist.cons_cons _ ?_ | refine List.Sublist.cons _ ?_)) ?_
    refine WA.assign 6 #[true, true, true, true, true, true, true] _ rfl rfl rfl (by decide) (by kernel_rfl) (by repeat (first | with_reducible refine Qp.then ?_ | with_reducible refine Qp.blk ?_ | with_reducible exact Qp.body)) ?_
    refine WA.done (by kernel_rfl) ?_
    repeat (first | refine WC.ret ?_ | with_reducible refine QE.then_r ?_)
    refine QE.nilrow 3 1 (QE.nilrow 3 1 ?_)
    exact QE.retc2 4 g2 29 (evC zeroEv.n (.slice none 0 0) (.slice none 0 0)) 37 (.int .i64 361) [_, _] rfl agg37 size37 rfl rfl rfl rfl (.cons_cons _ (.cons_cons _ (List.nil_sublist _))) ⟨_, by rw [hd], hzero _ hd⟩
  · repeat (first | refine WC.seq ?_ | refine WC.region ?_ | refine WL.nil ?_ | with_reducible refine QE.then_n ?_ | refine WL.move _ rfl (by decide) rfl ?_ | refine WL.bin _ _ _ rfl (by decide) rfl rfl (fun _ => rfl) ?_ | refine WL.nilc _ rfl (by decide) rfl ?_ | refine WL.pick _ _ rfl (by decide) rfl rfl ?_ | refine WL.fd101_0 rfl (by decide) rfl ?_ | refine WL.fd101_1 rfl (by decide) rfl ?_ | refine WL.ln39 rfl (by decide) rfl ?_ | refine WL.ld39 0 rfl (by decide) rfl rfl rfl ?_ | refine WL.ld40 0 rfl (by decide) rfl rfl rfl ?_)
    refine WC.cond_f (by show some (Value.bool (decide _)) = _; rw [decide_eq_false (by omega)]) ?_
    repeat (first | refine WC.seq ?_ | refine WC.region ?_ | refine WC.skip ?_ | refine WC.ret ?_ | refine WL.nil ?_ | with_reducible refine QE.then_n ?_ | refine WC.cond_f rfl ?_ | refine WL.move _ rfl (by decide) rfl ?_ | refine WL.assign _ rfl (by decide) rfl ?_ | refine WL.bin _ _ _ rfl (by decide) rfl rfl (fun _ => rfl) ?_ | refine WL.nilc _ rfl (by decide) rfl ?_ | refine WL.fd101_1 rfl (by decide) rfl ?_ | refine WL.ld37 1 rfl (by decide) rfl rfl rfl rfl ?_ | refine WL.ld40 0 rfl (by decide) rfl rfl rfl ?_ | refine WL.st37 2 rfl rfl rfl rfl rfl rfl rfl rfl rfl ?_)
    exact QE.retc2 2 g2 29 (evC e.n (.slice A6 e.nums.length c6) (.slice A27 e.mem.length c27)) 37 (.int .i64 0) [_, _] rfl agg37 size37 rfl rfl rfl rfl (.cons _ (.cons _ (.cons _ (.refl _)))) ⟨_, by rw [hd], by rw [hd]; exact ⟨hx6, hx27, A6, c6, A27, c27, rfl, rfl⟩⟩
end Go.Proofs.Ytalafklnnohlgaa.Cod
