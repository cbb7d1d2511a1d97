/- The law CodeApart. Condition: the arguments' lists stand as they are told. -/
import Derived.Test.YtalafklnnohlgaaCodO
namespace Go.Proofs.Ytalafklnnohlgaa.Cod
open Go.RowKit X Go.Proofs.YtalafklnnohlgaaW.PrintLast
open Oct hiding agg39 size39
set_option linter.unusedVariables false
set_option linter.unusedSimpArgs false

def newV (v : Value) (X : List Ck) : Prop := ∃ g, v = .pointer (some ⟨g, 0, none⟩) ∧ X = [.blk g (evC zeroEv.n (.slice none 0 0) (.slice none 0 0)) 37]
theorem ok_rows {E : Env} {H : List Ck} {w : World} {e : Ev} {A6 A27 : Option Addr} {c6 c27 : Nat} (i j : Nat) (hi : H[i]? = some (.row (.slice A6 e.nums.length c6) 3 1 e.nums.length (i64s e.nums))) (hj : H[j]? = some (.row (.slice A27 e.mem.length c27) 3 1 e.mem.length (i64s e.mem))) (hI : I E H w) : EvOk w e A6 A27 := by
  refine ⟨⟨(row_reads hI hi).2, (row_reads hI hj).2⟩, fun ad had => ?_, fun ad had => ?_⟩
  · subst had
    obtain h := hI.ok _ (List.mem_of_getElem? hi)
    exact Ck.lt h (by
      rcases h.2 with ⟨h2, _⟩ | ⟨g, cap, cur, h2, _⟩
      · cases h2
      · cases h2; rfl)
  · subst had
    obtain h := hI.ok _ (List.mem_of_getElem? hj)
    exact Ck.lt h (by
      rcases h.2 with ⟨h2, _⟩ | ⟨g, cap, cur, h2, _⟩
      · cases h2
      · cases h2; rfl)

set_option maxHeartbeats 8000000 in
set_option maxRecDepth 100000 in
theorem apart_con (x z : Ev) (A6 A27 B6 B27 : Option Addr) (c6 c27 k6 k27 : Nat) (hx : cellsOk x c6 c27) (hz : cellsOk z k6 k27) :
    Con Try.prog 12 #[evV x A6 c6 A27 c27, evV z B6 k6 B27 k27] [] (fun w => EvRd w x A6 A27 ∧ EvRd w z B6 B27) (same (.bool true) []) := by
  refine Con.intro Try.func12 rfl Try.ntmps12 rfl (fun w hR => ?_)
  unfold evV
  repeat (first | refine WC.seq ?_ | refine WC.region ?_)
  refine WL.box _ (evC x.n (.slice A6 x.nums.length c6) (.slice A27 x.mem.length c27)) rfl (by decide) rfl rfl (fun b2 => ?_)
  refine WL.box _ (evC z.n (.slice B6 z.nums.length k6) (.slice B27 z.mem.length k27)) rfl (by decide) rfl rfl (fun b3 => ?_)
  repeat (first | refine WC.seq ?_ | refine WC.region ?_ | refine WL.assign _ rfl (by decide) rfl ?_)
  refine WL.call [] [] [] _ [] _ wakes_con rfl (by decide) rfl Try.func15 rfl rfl rfl rfl (.refl _) (fun _ _ => trivial) ?_
  rintro v H1 ⟨rfl, rfl⟩
  rw [List.nil_append]
  repeat (first | refine WC.seq ?_ | refine WC.skip ?_ | refine WL.nil ?_ | with_reducible refine QE.then_n ?_ | refine WC.cond_f rfl ?_ | refine WL.un _ _ rfl (by decide) rfl (fun _ => rfl) ?_)
  refine WC.draw 8 #[false, false, false, false, false, false, false, false] [.blk b3 (evC z.n (.slice B6 z.nums.length k6) (.slice B27 z.mem.length k27)) 37, .blk b2 (evC x.n (.slice A6 x.nums.length c6) (.slice A27 x.mem.length c27)) 37] [] (by kernel_rfl) rfl rfl (by repeat (first | exact List.Sublist.refl _ | exact List.nil_sublist _ | refine List.Sublist.cons_cons _ ?_ | refine List.Sublist.cons _ ?_)) ?_
  refine WA.loadA 0 #[true, false, false, false, false, false, false, false] 1 b2 0 29 _ _ 37 rfl rfl (by decide) (by repeat (first | exact List.Sublist.refl _ | exact List.nil_sublist _ | refine List.Sublist.cons_cons _ ?_ | refine List.Sublist.cons _ ?_)) (by kernel_rfl) (by repeat (first | with_reducible refine Qp.then ?_ | with_reducible refine Qp.blk ?_ | with_reducible exact Qp.body)) rfl agg37 size37 rfl rfl rfl ?_
  refine WA.loadA 2 #[true, false, true, false, false, false, false, false] 0 b3 0 29 _ _ 37 rfl rfl (by decide) (by repeat (first | exact List.Sublist.refl _ | exact List.nil_sublist _ | refine List.Sublist.cons_cons _ ?_ | refine List.Sublist.cons _ ?_)) (by kernel_rfl) (by repeat (first | with_reducible refine Qp.then ?_ | with_reducible refine Qp.blk ?_ | with_reducible exact Qp.body)) rfl agg37 size37 rfl rfl rfl ?_
  refine WA.any 4 [⟨1, 14, evOwn (fewE x)⟩, ⟨3, 16, evOwn (fewE z)⟩, ⟨4, 5, newV⟩, ⟨5, 6, newV⟩] _ _ #[true, true, true, true, true, true, false, false] _ _ rfl (by kernel_rfl) (all_cons (itC [] [] [evV x A6 c6 A27 c27] _ (few_con x A6 A27 c6 c27 hx.1 hx.2) rfl (by decide) rfl rfl rfl Try.func16 rfl rfl rfl rfl (fun _ w hI => hR.1.kept hI.kp rfl)) (all_cons (itC [] [] [evV z B6 k6 B27 k27] _ (few_con z B6 B27 k6 k27 hz.1 hz.2) rfl (by decide) rfl rfl rfl Try.func16 rfl rfl rfl rfl (fun _ w hI => hR.2.kept hI.kp rfl)) (all_cons (itA zeroA (evC zeroEv.n (.slice none 0 0) (.slice none 0 0)) rfl (by decide) rfl rfl zero37 rfl) (all_cons (itA zeroA (evC zeroEv.n (.slice none 0 0) (.slice none 0 0)) rfl (by decide) rfl rfl zero37 rfl) all_nil)))) (show ([14, 16, 5, 6] : List Nat).Nodup by decide) (show ([1, 3, 4, 5] : List Nat).Nodup by decide) (by repeat (first | exact List.Sublist.refl _ | exact List.nil_sublist _ | refine List.Sublist.cons_cons _ ?_ | refine List.Sublist.cons _ ?_)) (fun f X hfX => ?_)
  obtain ⟨A1, c1, A2, c2, e1, x1⟩ := hfX ⟨1, 14, evOwn (fewE x)⟩ (by simp)
  obtain ⟨B1, k1, B2, k2, e2, x2⟩ := hfX ⟨3, 16, evOwn (fewE z)⟩ (by simp)
  obtain ⟨g5, e3, x3⟩ := hfX ⟨4, 5, newV⟩ (by simp)
  obtain ⟨g6, e4, x4⟩ := hfX ⟨5, 6, newV⟩ (by simp)
  dsimp only at e1 x1 e2 x2 e3 x3 e4 x4
  simp only [List.map_cons, List.map_nil, List.flatMap_cons, List.flatMap_nil, List.append_nil, e1, x1, e2, x2, e3, x3, e4, x4, List.cons_append, List.nil_append]
  generalize hx' : fewE x = x'
  generalize hz' : fewE z = z'
  unfold evV
  refine WA.storeK 6 #[true, true, true, true, true, true, true, false] 4 g5 0 _ _ (evC x'.n (.slice A1 x'.nums.length c1) (.slice A2 x'.mem.length c2)) _ _ rfl rfl (by kernel_rfl) rfl rfl rfl rfl rfl size37 rfl rfl rfl (by repeat (first | exact List.Sublist.refl _ | exact List.nil_sublist _ | refine List.Sublist.cons_cons _ ?_ | refine List.Sublist.cons _ ?_)) ?_
  refine WA.storeK 7 #[true, true, true, true, true, true, true, true] 5 g6 0 _ _ (evC z'.n (.slice B1 z'.nums.length k1) (.slice B2 z'.mem.length k2)) _ _ rfl rfl (by kernel_rfl) rfl rfl rfl rfl rfl size37 rfl rfl rfl (by repeat (first | exact List.Sublist.refl _ | exact List.nil_sublist _ | refine List.Sublist.cons_cons _ ?_ | refine List.Sublist.cons _ ?_)) ?_
  refine WA.done (by kernel_rfl) ?_
  have hxm := few_max x
  have hzm := few_max z
  rw [hx'] at hxm
  rw [hz'] at hzm
  repeat (with_reducible refine QE.then_n ?_)
  refine WC.perm [.blk g5 (evC x'.n (.slice A1 x'.nums.length c1) (.slice A2 x'.mem.length c2)) 37, .blk g6 (evC z'.n (.slice B1 z'.nums.length k1) (.slice B2 z'.mem.length k2)) 37, .blk b3 (evC z.n (.slice B6 z.nums.length k6) (.slice B27 z.mem.length k27)) 37, .blk b2 (evC x.n (.slice A6 x.nums.length c6) (.slice A27 x.mem.length c27)) 37, .row (.slice A1 x'.nums.length c1) 3 1 x'.nums.length (i64s x'.nums), .row (.slice A2 x'.mem.length c2) 3 1 x'.mem.length (i64s x'.mem), .row (.slice B1 z'.nums.length k1) 3 1 z'.nums.length (i64s z'.nums), .row (.slice B2 z'.mem.length k2) 3 1 z'.mem.length (i64s z'.mem)] (List.perm_append_comm (l₁ := [_, _, _, _]) (l₂ := [_, _, _, _])) ?_
  repeat (first | refine WC.seq ?_ | refine WC.region ?_ | refine WL.ld37 0 rfl (by decide) rfl rfl rfl rfl ?_)
  refine WL.call [] [] [evV x' A1 c1 A2 c2] _ [] _ (encode_con x' A1 A2 c1 c2 hxm) rfl (by decide) rfl Try.func23 rfl rfl rfl rfl (.refl _) (fun w hI => ok_rows 4 5 rfl rfl hI) ?_
  rintro v H1 ⟨P1, p1, rfl, rfl, hlp⟩
  simp only [List.cons_append, List.nil_append]
  repeat (first | refine WC.seq ?_ | refine WC.region ?_ | refine WL.move _ rfl (by decide) rfl ?_ | refine WL.assign _ rfl (by decide) rfl ?_ | refine WL.extract _ _ rfl (by decide) rfl (fun _ => rfl) ?_ | refine WL.ld37 2 rfl (by decide) rfl rfl rfl rfl ?_)
  refine WL.call [] [] [evV z' B1 k1 B2 k2] _ [] _ (encode_con z' B1 B2 k1 k2 hzm) rfl (by decide) rfl Try.func23 rfl rfl rfl rfl (.refl _) (fun w hI => ok_rows 7 8 rfl rfl hI) ?_
  rintro v H1 ⟨P2, p2, rfl, rfl, hlq⟩
  simp only [List.cons_append, List.nil_append]
  cases hp : encP x' with
  | none =>
    rw [(encB_none hp).1, (encB_none hp).2]
    repeat (first | refine WC.seq ?_ | refine WC.region ?_ | refine WC.ret ?_ | refine WL.nil ?_ | with_reducible refine QE.then_n ?_ | with_reducible refine QE.then_r ?_ | refine WC.cond_t rfl ?_ | refine WL.move _ rfl (by decide) rfl ?_ | refine WL.assign _ rfl (by decide) rfl ?_ | refine WL.bin _ _ _ rfl (by decide) rfl rfl (fun _ => rfl) ?_ | refine WL.off rfl (by decide) ?_ | refine WL.extract _ _ rfl (by decide) rfl (fun _ => rfl) ?_ | refine WL.pick _ _ rfl (by decide) rfl rfl ?_)
    exact QE.ret1 _ _ rfl rfl (List.nil_sublist _) ⟨rfl, rfl⟩
  | some p =>
  rw [(encB_of hp).1] at hlp
  rw [(encB_of hp).1, (encB_of hp).2]
  cases hq : encP z' with
  | none =>
    rw [(encB_none hq).1, (encB_none hq).2]
    repeat (first | refine WC.seq ?_ | refine WC.region ?_ | refine WC.ret ?_ | refine WL.nil ?_ | with_reducible refine QE.then_n ?_ | with_reducible refine QE.then_r ?_ | refine WC.cond_t rfl ?_ | refine WL.move _ rfl (by decide) rfl ?_ | refine WL.assign _ rfl (by decide) rfl ?_ | refine WL.bin _ _ _ rfl (by decide) rfl rfl (fun _ => rfl) ?_ | refine WL.extract _ _ rfl (by decide) rfl (fun _ => rfl) ?_ | refine WL.pick _ _ rfl (by decide) rfl rfl ?_)
    exact QE.ret1 _ _ rfl rfl (List.nil_sublist _) ⟨rfl, rfl⟩
  | some q =>
  rw [(encB_of hq).1] at hlq
  rw [(encB_of hq).1, (encB_of hq).2]
  have hbp : Byt p := by have := byt_encB x'; rwa [(encB_of hp).1] at this
  have hbq : Byt q := by have := byt_encB z'; rwa [(encB_of hq).1] at this
  have hpq := enc_apart hp hq
  have hs : decide (p = q) = sameE x' z' := by
    cases h : sameE x' z' with
    | true => exact decide_eq_true (hpq.2 h)
    | false => exact decide_eq_false (fun e => by rw [hpq.1 e] at h; cases h)
  repeat (first | refine WC.seq ?_ | refine WC.region ?_ | refine WC.skip ?_ | refine WL.nil ?_ | with_reducible refine QE.then_n ?_ | refine WC.cond_f rfl ?_ | refine WL.move _ rfl (by decide) rfl ?_ | refine WL.assign _ rfl (by decide) rfl ?_ | refine WL.bin _ _ _ rfl (by decide) rfl rfl (fun _ => rfl) ?_ | refine WL.extract _ _ rfl (by decide) rfl (fun _ => rfl) ?_ | refine WL.pick _ _ rfl (by decide) rfl rfl ?_)
  refine WC.draw 7 #[false, false, false, false, false, false, false] [.blk g5 (evC x'.n (.slice A1 x'.nums.length c1) (.slice A2 x'.mem.length c2)) 37, .blk g6 (evC z'.n (.slice B1 z'.nums.length k1) (.slice B2 z'.mem.length k2)) 37] [] (by kernel_rfl) rfl rfl (by repeat (first | exact List.Sublist.refl _ | exact List.nil_sublist _ | refine List.Sublist.cons_cons _ ?_ | refine List.Sublist.cons _ ?_)) ?_
  refine WA.move 0 #[true, false, false, false, false, false, false] _ rfl rfl rfl (by decide) (by kernel_rfl) (by repeat (first | with_reducible refine Qp.then ?_ | with_reducible refine Qp.blk ?_ | with_reducible exact Qp.body)) ?_
  refine WA.move 1 #[true, true, false, false, false, false, false] _ rfl rfl rfl (by decide) (by kernel_rfl) (by repeat (first | with_reducible refine Qp.then ?_ | with_reducible refine Qp.blk ?_ | with_reducible exact Qp.body)) ?_
  refine WA.loadA 3 #[true, true, false, true, false, false, false] 0 g5 0 29 _ _ 37 rfl rfl (by decide) (by repeat (first | exact List.Sublist.refl _ | exact List.nil_sublist _ | refine List.Sublist.cons_cons _ ?_ | refine List.Sublist.cons _ ?_)) (by kernel_rfl) (by repeat (first | with_reducible refine Qp.then ?_ | with_reducible refine Qp.blk ?_ | with_reducible exact Qp.body)) rfl agg37 size37 rfl rfl rfl ?_
  refine WA.loadA 4 #[true, true, false, true, true, false, false] 1 g6 0 29 _ _ 37 rfl rfl (by decide) (by repeat (first | exact List.Sublist.refl _ | exact List.nil_sublist _ | refine List.Sublist.cons_cons _ ?_ | refine List.Sublist.cons _ ?_)) (by kernel_rfl) (by repeat (first | with_reducible refine Qp.then ?_ | with_reducible refine Qp.blk ?_ | with_reducible exact Qp.body)) rfl agg37 size37 rfl rfl rfl ?_
  refine WA.call 2 #[true, true, true, true, true, false, false] [] [] [.slice P1 p.length p1, .slice P2 q.length p2] _ [] _ (equalB_con P1 P2 p1 p2 p q hbp hbq) rfl rfl (by decide) (by kernel_rfl) rfl rfl Try.func19 rfl rfl rfl rfl (.refl _) (fun w hI => ⟨(row_reads hI (i := 1) rfl).2, (row_reads hI (i := 0) rfl).2⟩) ?_
  rintro v H1 ⟨rfl, rfl⟩
  rw [List.nil_append]
  refine ⟨(by repeat (first | exact List.Sublist.refl _ | exact List.nil_sublist _ | refine List.Sublist.cons_cons _ ?_ | refine List.Sublist.cons _ ?_)), ?_⟩
  refine WA.call 5 #[true, true, true, true, true, true, false] [] [] [evV x' A1 c1 A2 c2, evV z' B1 k1 B2 k2] _ [] _ (sameE_con x' z' A1 A2 B1 B2 c1 c2 k1 k2 hxm hzm) rfl rfl (by decide) (by kernel_rfl) rfl rfl Try.func24 rfl rfl rfl rfl (.refl _) (fun w hI => ⟨⟨(row_reads hI (i := 6) rfl).2, (row_reads hI (i := 7) rfl).2⟩, ⟨(row_reads hI (i := 8) rfl).2, (row_reads hI (i := 9) rfl).2⟩⟩) ?_
  rintro v H1 ⟨rfl, rfl⟩
  rw [List.nil_append]
  refine ⟨(by repeat (first | exact List.Sublist.refl _ | exact List.nil_sublist _ | refine List.Sublist.cons_cons _ ?_ | refine List.Sublist.cons _ ?_)), ?_⟩
  refine WA.bin 6 #[true, true, true, true, true, true, true] _ _ _ rfl rfl (run_bne _ _ Try.underlying4) rfl rfl (by decide) (by kernel_rfl) (by repeat (first | with_reducible refine Qp.then ?_ | with_reducible refine Qp.blk ?_ | with_reducible exact Qp.body)) ?_
  refine WA.know (.bool false) (s := 39) rfl (by rw [hs]; simp) ?_
  refine WA.done (by kernel_rfl) ?_
  repeat (first | refine WC.seq ?_ | refine WC.region ?_ | refine WC.skip ?_ | with_reducible refine QE.then_n ?_ | refine WC.cond_f rfl ?_ | refine WL.ld37 2 rfl (by decide) rfl rfl rfl rfl ?_ | refine WL.ld37 3 rfl (by decide) rfl rfl rfl rfl ?_)
  refine WL.call [] [] [evV x' A1 c1 A2 c2, evV z' B1 k1 B2 k2] _ [] _ (sameE_con x' z' A1 A2 B1 B2 c1 c2 k1 k2 hxm hzm) rfl (by decide) rfl Try.func24 rfl rfl rfl rfl (.refl _) (fun w hI => ⟨⟨(row_reads hI (i := 6) rfl).2, (row_reads hI (i := 7) rfl).2⟩, ⟨(row_reads hI (i := 8) rfl).2, (row_reads hI (i := 9) rfl).2⟩⟩) ?_
  rintro v H1 ⟨rfl, rfl⟩
  rw [List.nil_append]
  cases hsm : sameE x' z' with
  | true =>
    repeat (first | refine WC.ret ?_ | refine WL.move _ rfl (by decide) rfl ?_ | refine WL.assign _ rfl (by decide) rfl ?_ | refine WL.off rfl (by decide) ?_ | refine WL.pick _ _ rfl (by decide) rfl rfl ?_ | refine WL.offu rfl (by decide) ?_)
    exact QE.ret1 _ _ rfl rfl (List.nil_sublist _) ⟨rfl, rfl⟩
  | false =>
    have hne : p ≠ q := fun e => by rw [hpq.1 e] at hsm; cases hsm
    repeat (refine WL.move _ rfl (by decide) rfl ?_)
    refine WL.fact (p.length ≤ p1 ∧ q.length ≤ p2) (fun w hI => ⟨(row_reads hI (i := 1) rfl).1, (row_reads hI (i := 0) rfl).1⟩) (fun hcl => ?_)
    refine WL.call [] [] [.slice P1 p.length p1, .slice P2 q.length p2] _ [] _ (pref_con P1 P2 p1 p2 p q hbp hbq hcl.1 (Nat.le_trans hlp (by decide)) (Nat.le_trans hlq (by decide))) rfl (by decide) rfl Try.func51 rfl rfl rfl rfl (.refl _) (fun w hI => ⟨(row_reads hI (i := 1) rfl).2, (row_reads hI (i := 0) rfl).2⟩) ?_
    rintro v H1 ⟨rfl, rfl⟩
    rw [List.nil_append, decide_eq_false (fun h => hne (enc_prefix hp hq h))]
    repeat (first | refine WL.move _ rfl (by decide) rfl ?_ | refine WL.un _ _ rfl (by decide) rfl (fun _ => rfl) ?_)
    refine WL.call [] [] [.slice P2 q.length p2, .slice P1 p.length p1] _ [] _ (pref_con P2 P1 p2 p1 q p hbq hbp hcl.2 (Nat.le_trans hlq (by decide)) (Nat.le_trans hlp (by decide))) rfl (by decide) rfl Try.func51 rfl rfl rfl rfl (.refl _) (fun w hI => ⟨(row_reads hI (i := 0) rfl).2, (row_reads hI (i := 1) rfl).2⟩) ?_
    rintro v H1 ⟨rfl, rfl⟩
    rw [List.nil_append, decide_eq_false (fun h => hne (enc_prefix hq hp h).symm)]
    repeat (first | refine WC.ret ?_ | refine WL.assign _ rfl (by decide) rfl ?_ | refine WL.un _ _ rfl (by decide) rfl (fun _ => rfl) ?_ | refine WL.pick _ _ rfl (by decide) rfl rfl ?_)
    exact QE.ret1 _ _ rfl rfl (List.nil_sublist _) ⟨rfl, rfl⟩
end Go.Proofs.Ytalafklnnohlgaa.Cod
