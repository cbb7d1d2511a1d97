/- The references' Right and Bytes: which events may be, and their bytes. Conditions: the numbers are in their ranges; no list is too long. -/
import Derived.Test.YtalafklnnohlgaaPur6
import Derived.Test.YtalafklnnohlgaaCod27
import Derived.Test.YtalafklnnohlgaaX15
namespace Go.Proofs.Ytalafklnnohlgaa.Cod
open Go.RowKit X Go.Proofs.YtalafklnnohlgaaW.PrintLast
open Oct hiding agg39 size39
set_option linter.unusedVariables false
set_option linter.unusedSimpArgs false

theorem bg_26 (k s : Int) : g26 (bgE k s) := by
  unfold g26 bgE
  have h0 : ∀ f : Nat → Int, f 26 = 0 → 0 ≤ f 26 ∧ f 26 < 4294967296 := fun f h => by rw [h]; decide
  dsimp only
  split
  · exact h0 _ rfl
  · split
    · exact h0 _ rfl
    · exact h0 _ rfl
theorem upd_ne {f : Nat → Int} {i j : Nat} {v : Int} (h : i ≠ j) : upd f j v i = f i := by
  have : Nat.beq i j = false := by
    rw [Bool.eq_false_iff]; intro hh; exact h (Nat.eq_of_beq_eq_true hh)
  simp [upd, this]
theorem up_26 {f : Nat → Int} {j : Nat} {v : Int} (hj : j ≠ 26) (h : 0 ≤ f 26 ∧ f 26 < 4294967296) : 0 ≤ upd f j v 26 ∧ upd f j v 26 < 4294967296 := by
  rw [upd_ne (Ne.symm hj)]; exact h
theorem set_26 {o : Ev} (h : g26 o) (c v : Int) : g26 (setF o (ltF c) v) := by
  unfold g26 at *
  rcases ltF_kind2 c with ⟨j, w, hk, _, hj⟩ | hk | ⟨_, hk⟩
  · rw [hk]; exact up_26 hj h
  · rw [hk]
    show 0 ≤ upd o.n 26 (IntKind.u32.wrap v) 26 ∧ upd o.n 26 (IntKind.u32.wrap v) 26 < 4294967296
    rw [upd_at, wr_u32]; omega
  · rw [hk]; exact up_26 (j := 5) (v := if v = 1 then 1 else 0) (by decide) h
theorem step_26 {a own o : Ev} {c : Int} (h : g26 own) (hs : stepR a c own = some o) : g26 o := by
  unfold stepR at hs
  split at hs
  · cases hs
    exact up_26 (j := 14) (v := a.n 14) (by decide) (up_26 (j := 13) (v := a.n 13) (by decide) h)
  split at hs
  · cases hs
    exact up_26 (j := 25) (v := a.n 25) (by decide) (up_26 (j := 24) (v := a.n 24) (by decide) h)
  split at hs
  · cases hs; exact h
  split at hs
  · cases hs; exact h
  split at hs
  · cases hs; exact set_26 h _ _
  · cases hs
theorem setF_lists (a : Ev) (f : Fd) (v : Int) : (setF a f v).nums = a.nums ∧ (setF a f v).mem = a.mem := by cases f <;> exact ⟨rfl, rfl⟩
theorem alloc37 {E : Env} {N : Nat} {m : List (Nat × Value)} {H : List Ck} {ty : TypeId} {pos : String} {af : Array Edge} {g : Option (Nat × Bool)} {d : Nat} :
    ∀ a w, Fr N m a → I E H w → ∃ v w' H', (execOp a.eval ⟨some d, .alloc 37, ty, pos, af, g⟩).run Try.prog w = .ok (.value v) w' ∧ (∃ g5, v = .pointer (some ⟨g5, 0, none⟩) ∧ H' = .blk g5 (evC zeroEv.n (.slice none 0 0) (.slice none 0 0)) 37 :: H) ∧ I E H' w' := fun a w hF hI =>
  ⟨_, _, _, by
    simp only [execOp, Instr.alloc]
    simp [zero37 w, newVar, newRow, newObj, Sem.run]; rfl, ⟨_, rfl, rfl⟩, hI.add (c := .blk w.heap.size (evC zeroEv.n (.slice none 0 0) (.slice none 0 0)) 37) (World.grownBy_alloc w _ none) (heap_push w _) (fun k hk => by simp only [Ck.fp, Option.some.injEq] at hk; omega)⟩
set_option maxHeartbeats 8000000 in
set_option maxRecDepth 100000 in
theorem right_con (a : Ev) (A6 A27 : Option Addr) (c6 c27 : Nat) (hw : wfE a) (hl : a.nums.length ≤ maxLen ∧ a.mem.length ≤ maxLen) :
    Con Try.prog 52 #[evV a A6 c6 A27 c27] [] (fun w => EvRd w a A6 A27) (same (.bool (rightP a)) []) := by
  refine Con.intro Try.func52 rfl Try.ntmps52 rfl (fun w hR => ?_)
  unfold evV
  repeat (first | refine WC.seq ?_ | refine WC.region ?_)
  refine WL.box _ (evC a.n (.slice A6 a.nums.length c6) (.slice A27 a.mem.length c27)) rfl (by decide) rfl rfl (fun g1 => ?_)
  repeat (first | refine WC.seq ?_ | refine WL.assign _ rfl (by decide) rfl ?_)
  refine WC.draw 10 #[false, false, false, false, false, false, false, false, false, false] [.blk g1 (evC a.n (.slice A6 a.nums.length c6) (.slice A27 a.mem.length c27)) 37] [] (by kernel_rfl) rfl rfl (by repeat (first | exact List.Sublist.refl _ | exact List.nil_sublist _ | refine List.Sublist.cons_cons _ ?_ | refine List.Sublist.cons _ ?_)) ?_
  refine WA.faddr 0 #[true, false, false, false, false, false, false, false, false, false] _ _ rfl (fa37_0 _ _) rfl rfl (by decide) (by kernel_rfl) (by repeat (first | with_reducible refine Qp.then ?_ | with_reducible refine Qp.blk ?_ | with_reducible exact Qp.body)) ?_
  refine WA.load 1 #[true, true, false, false, false, false, false, false, false, false] 0 _ _ _ _ _ rfl rfl (by decide) (by repeat (first | exact List.Sublist.refl _ | exact List.nil_sublist _ | refine List.Sublist.cons_cons _ ?_ | refine List.Sublist.cons _ ?_)) (by kernel_rfl) (by repeat (first | with_reducible refine Qp.then ?_ | with_reducible refine Qp.blk ?_ | with_reducible exact Qp.body)) rfl agg3 rfl rfl ?_
  refine WA.loadA 2 #[true, true, true, false, false, false, false, false, false, false] 0 g1 0 29 _ _ 37 rfl rfl (by decide) (by repeat (first | exact List.Sublist.refl _ | exact List.nil_sublist _ | refine List.Sublist.cons_cons _ ?_ | refine List.Sublist.cons _ ?_)) (by kernel_rfl) (by repeat (first | with_reducible refine Qp.then ?_ | with_reducible refine Qp.blk ?_ | with_reducible exact Qp.body)) rfl agg37 size37 rfl rfl rfl ?_
  refine WA.call 3 #[true, true, true, true, false, false, false, false, false, false] [] [] [evV a A6 c6 A27 c27] _ [] _ (sub_con a A6 A27 c6 c27) rfl rfl (by decide) (by kernel_rfl) rfl rfl Try.func73 rfl rfl rfl rfl (.refl _) (fun _ _ => trivial) ?_
  rintro v H1 ⟨rfl, rfl⟩
  rw [List.nil_append]
  refine ⟨(by repeat (first | exact List.Sublist.refl _ | exact List.nil_sublist _ | refine List.Sublist.cons_cons _ ?_ | refine List.Sublist.cons _ ?_)), ?_⟩
  refine WA.call 4 #[true, true, true, true, true, false, false, false, false, false] [] [] [.int .i64 (a.n 0), .int .i64 (subK a)] _ [] _ (fields_con (a.n 0) (subK a)) rfl rfl (by decide) (by kernel_rfl) rfl rfl Try.func72 rfl rfl rfl rfl (.refl _) (fun _ _ => trivial) ?_
  rintro v H1 ⟨rfl, rfl⟩
  rw [List.nil_append]
  refine ⟨(by repeat (first | exact List.Sublist.refl _ | exact List.nil_sublist _ | refine List.Sublist.cons_cons _ ?_ | refine List.Sublist.cons _ ?_)), ?_⟩
  refine WA.move 5 #[true, true, true, true, true, true, false, false, false, false] _ rfl rfl rfl (by decide) (by kernel_rfl) (by repeat (first | with_reducible refine Qp.then ?_ | with_reducible refine Qp.blk ?_ | with_reducible exact Qp.body)) ?_
  refine WA.extract 6 #[true, true, true, true, true, true, true, false, false, false] _ _ rfl (fun _ => rfl) rfl rfl (by decide) (by kernel_rfl) (by repeat (first | with_reducible refine Qp.then ?_ | with_reducible refine Qp.blk ?_ | with_reducible exact Qp.body)) ?_
  refine WA.extract 7 #[true, true, true, true, true, true, true, true, false, false] _ _ rfl (fun _ => rfl) rfl rfl (by decide) (by kernel_rfl) (by repeat (first | with_reducible refine Qp.then ?_ | with_reducible refine Qp.blk ?_ | with_reducible exact Qp.body)) ?_
  refine WA.assign 8 #[true, true, true, true, true, true, true, true, true, false] _ rfl rfl rfl (by decide) (by kernel_rfl) (by repeat (first | with_reducible refine Qp.then ?_ | with_reducible refine Qp.blk ?_ | with_reducible exact Qp.body)) ?_
  refine WA.assign 9 #[true, true, true, true, true, true, true, true, true, true] _ rfl rfl rfl (by decide) (by kernel_rfl) (by repeat (first | with_reducible refine Qp.then ?_ | with_reducible refine Qp.blk ?_ | with_reducible exact Qp.body)) ?_
  refine WA.done (by kernel_rfl) ?_
  cases hf : fldL (a.n 0) (subK a) with
  | none =>
    have e : rightP a = false := by unfold rightP; rw [hf]
    rw [e]
    simp only [Option.getD_none, Option.isSome_none]
    repeat (first | refine WC.seq ?_ | refine WC.region ?_ | refine WC.ret ?_ | refine WL.nil ?_ | with_reducible refine QE.then_n ?_ | with_reducible refine QE.then_r ?_ | refine WC.cond_t rfl ?_ | refine WL.move _ rfl (by decide) rfl ?_ | refine WL.assign _ rfl (by decide) rfl ?_ | refine WL.un _ _ rfl (by decide) rfl (fun _ => rfl) ?_)
    exact QE.ret1 _ _ rfl rfl (List.nil_sublist _) ⟨rfl, rfl⟩
  | some ls =>
  simp only [Option.getD_some, Option.isSome_some]
  repeat (with_reducible refine QE.then_n ?_)
  refine WC.seq ?_
  refine WC.seq ?_
  repeat (first | refine WC.region ?_ | refine WC.skip ?_ | refine WL.nil ?_ | with_reducible refine QE.then_n ?_ | refine WC.cond_f rfl ?_ | refine WL.move _ rfl (by decide) rfl ?_ | refine WL.un _ _ rfl (by decide) rfl (fun _ => rfl) ?_)
  refine WC.cut (σ := Nat) (fun g5 => [(1, .pointer (some ⟨g1, 0, none⟩)), (5, .pointer (some ⟨g5, 0, none⟩)), (3, .string (strOfNums ls))]) (fun g5 => [.blk g5 (evC (bgE (a.n 0) (subK a)).n (.slice none 0 0) (.slice none 0 0)) 37, .blk g1 (evC a.n (.slice A6 a.nums.length c6) (.slice A27 a.mem.length c27)) 37]) (fun _ => True) ?_ ?_
  rotate_left
  · refine WC.draw 7 #[false, false, false, false, false, false, false] [.blk g1 (evC a.n (.slice A6 a.nums.length c6) (.slice A27 a.mem.length c27)) 37] [] (by kernel_rfl) rfl rfl (by repeat (first | exact List.Sublist.refl _ | exact List.nil_sublist _ | refine List.Sublist.cons_cons _ ?_ | refine List.Sublist.cons _ ?_)) ?_
    refine WA.faddr 0 #[true, false, false, false, false, false, false] _ _ rfl (fa37_0 _ _) rfl rfl (by decide) (by kernel_rfl) (by repeat (first | with_reducible refine Qp.then ?_ | with_reducible refine Qp.blk ?_ | with_reducible exact Qp.body)) ?_
    refine WA.load 1 #[true, true, false, false, false, false, false] 0 _ _ _ _ _ rfl rfl (by decide) (by repeat (first | exact List.Sublist.refl _ | exact List.nil_sublist _ | refine List.Sublist.cons_cons _ ?_ | refine List.Sublist.cons _ ?_)) (by kernel_rfl) (by repeat (first | with_reducible refine Qp.then ?_ | with_reducible refine Qp.blk ?_ | with_reducible exact Qp.body)) rfl agg3 rfl rfl ?_
    refine WA.loadA 2 #[true, true, true, false, false, false, false] 0 g1 0 29 _ _ 37 rfl rfl (by decide) (by repeat (first | exact List.Sublist.refl _ | exact List.nil_sublist _ | refine List.Sublist.cons_cons _ ?_ | refine List.Sublist.cons _ ?_)) (by kernel_rfl) (by repeat (first | with_reducible refine Qp.then ?_ | with_reducible refine Qp.blk ?_ | with_reducible exact Qp.body)) rfl agg37 size37 rfl rfl rfl ?_
    refine WA.two 3 5 #[true, true, true, true, false, false, false] #[true, true, true, false, false, true, false] rfl rfl rfl rfl (by kernel_rfl) rfl rfl ?_ ?_
    · skip
      refine St.call [] [] [evV a A6 c6 A27 c27] _ [] _ (sub_con a A6 A27 c6 c27) (by decide) rfl Try.func73 rfl rfl rfl rfl (.refl _) (fun _ _ => trivial) ?_
      rintro v H1 ⟨rfl, rfl⟩
      rw [List.nil_append]
      refine ⟨(by repeat (first | exact List.Sublist.refl _ | exact List.nil_sublist _ | refine List.Sublist.cons_cons _ ?_ | refine List.Sublist.cons _ ?_)), ?_⟩
      refine WA.two 4 5 #[true, true, true, true, true, false, false] #[true, true, true, true, false, true, false] rfl rfl rfl rfl (by kernel_rfl) rfl rfl ?_ ?_
      · skip
        refine St.call [] [] [.int .i64 (a.n 0), .int .i64 (subK a)] _ [] _ (begun_con (a.n 0) (subK a)) (by decide) rfl Try.func74 rfl rfl rfl rfl (.refl _) (fun _ _ => trivial) ?_
        rintro v H1 ⟨rfl, rfl⟩
        rw [List.nil_append]
        refine ⟨(by repeat (first | exact List.Sublist.refl _ | exact List.nil_sublist _ | refine List.Sublist.cons_cons _ ?_ | refine List.Sublist.cons _ ?_)), ?_⟩
        refine WA.gen 5 #[true, true, true, true, true, true, false] (fun v H' => ∃ g5, v = .pointer (some ⟨g5, 0, none⟩) ∧ H' = [.blk g5 (evC zeroEv.n (.slice none 0 0) (.slice none 0 0)) 37, .blk g1 (evC a.n (.slice A6 a.nums.length c6) (.slice A27 a.mem.length c27)) 37]) rfl rfl (by decide) (by kernel_rfl) rfl alloc37 ?_
        rintro v H' ⟨g5, rfl, rfl⟩
        refine ⟨(by repeat (first | exact List.Sublist.refl _ | exact List.nil_sublist _ | refine List.Sublist.cons_cons _ ?_ | refine List.Sublist.cons _ ?_)), ?_⟩
        refine WA.storeK 6 #[true, true, true, true, true, true, true] 0 g5 0 _ _ (evC (bgE (a.n 0) (subK a)).n (.slice none 0 0) (.slice none 0 0)) _ _ rfl rfl (by kernel_rfl) rfl rfl rfl rfl rfl size37 rfl rfl rfl (by repeat (first | exact List.Sublist.refl _ | exact List.nil_sublist _ | refine List.Sublist.cons_cons _ ?_ | refine List.Sublist.cons _ ?_)) ?_
        refine WA.done (by kernel_rfl) ?_
        exact QE.cut g5 trivial (.cons rfl (.cons rfl (.cons rfl .nil))) (.refl _)
      · skip
        refine St.alloc zeroA (evC zeroEv.n (.slice none 0 0) (.slice none 0 0)) (by decide) zero37 rfl (by repeat (first | exact List.Sublist.refl _ | exact List.nil_sublist _ | refine List.Sublist.cons_cons _ ?_ | refine List.Sublist.cons _ ?_)) (fun g5 => ?_)
        refine WA.call 4 #[true, true, true, true, true, true, false] [] [] [.int .i64 (a.n 0), .int .i64 (subK a)] _ [] _ (begun_con (a.n 0) (subK a)) rfl rfl (by decide) (by kernel_rfl) rfl rfl Try.func74 rfl rfl rfl rfl (.refl _) (fun _ _ => trivial) ?_
        rintro v H1 ⟨rfl, rfl⟩
        rw [List.nil_append]
        refine ⟨(by repeat (first | exact List.Sublist.refl _ | exact List.nil_sublist _ | refine List.Sublist.cons_cons _ ?_ | refine List.Sublist.cons _ ?_)), ?_⟩
        refine WA.storeK 6 #[true, true, true, true, true, true, true] 0 g5 0 _ _ (evC (bgE (a.n 0) (subK a)).n (.slice none 0 0) (.slice none 0 0)) _ _ rfl rfl (by kernel_rfl) rfl rfl rfl rfl rfl size37 rfl rfl rfl (by repeat (first | exact List.Sublist.refl _ | exact List.nil_sublist _ | refine List.Sublist.cons_cons _ ?_ | refine List.Sublist.cons _ ?_)) ?_
        refine WA.done (by kernel_rfl) ?_
        exact QE.cut g5 trivial (.cons rfl (.cons rfl (.cons rfl .nil))) (.refl _)
    · skip
      refine St.alloc zeroA (evC zeroEv.n (.slice none 0 0) (.slice none 0 0)) (by decide) zero37 rfl (by repeat (first | exact List.Sublist.refl _ | exact List.nil_sublist _ | refine List.Sublist.cons_cons _ ?_ | refine List.Sublist.cons _ ?_)) (fun g5 => ?_)
      refine WA.call 3 #[true, true, true, true, false, true, false] [] [] [evV a A6 c6 A27 c27] _ [] _ (sub_con a A6 A27 c6 c27) rfl rfl (by decide) (by kernel_rfl) rfl rfl Try.func73 rfl rfl rfl rfl (.refl _) (fun _ _ => trivial) ?_
      rintro v H1 ⟨rfl, rfl⟩
      rw [List.nil_append]
      refine ⟨(by repeat (first | exact List.Sublist.refl _ | exact List.nil_sublist _ | refine List.Sublist.cons_cons _ ?_ | refine List.Sublist.cons _ ?_)), ?_⟩
      refine WA.call 4 #[true, true, true, true, true, true, false] [] [] [.int .i64 (a.n 0), .int .i64 (subK a)] _ [] _ (begun_con (a.n 0) (subK a)) rfl rfl (by decide) (by kernel_rfl) rfl rfl Try.func74 rfl rfl rfl rfl (.refl _) (fun _ _ => trivial) ?_
      rintro v H1 ⟨rfl, rfl⟩
      rw [List.nil_append]
      refine ⟨(by repeat (first | exact List.Sublist.refl _ | exact List.nil_sublist _ | refine List.Sublist.cons_cons _ ?_ | refine List.Sublist.cons _ ?_)), ?_⟩
      refine WA.storeK 6 #[true, true, true, true, true, true, true] 0 g5 0 _ _ (evC (bgE (a.n 0) (subK a)).n (.slice none 0 0) (.slice none 0 0)) _ _ rfl rfl (by kernel_rfl) rfl rfl rfl rfl rfl size37 rfl rfl rfl (by repeat (first | exact List.Sublist.refl _ | exact List.nil_sublist _ | refine List.Sublist.cons_cons _ ?_ | refine List.Sublist.cons _ ?_)) ?_
      refine WA.done (by kernel_rfl) ?_
      exact QE.cut g5 trivial (.cons rfl (.cons rfl (.cons rfl .nil))) (.refl _)
  rintro g5 _
  have hlen := fld_len hf
  have hmem := fldL_mem hf
  have hright : rightP a = match goR a ls (bgE (a.n 0) (subK a)) with
    | none => false
    | some own => sameE a own && (fewL a.nums && fewL a.mem) := by unfold rightP; rw [hf]; rfl
  repeat (first | refine WC.seq ?_ | refine WC.region ?_ | refine WL.move _ rfl (by decide) rfl ?_)
  refine WL.lenS ls Try.underlying9 rfl (by decide) rfl ?_
  repeat (first | refine WC.block ?_ | refine WL.move _ rfl (by decide) rfl ?_)
  refine WC.loop (σ := Nat × Ev × Option Addr × Nat × Option Addr × Nat) (fun s => [(27, .int .i64 s.1), (26, .int .i64 ls.length), (3, .string (strOfNums ls)), (1, .pointer (some ⟨g1, 0, none⟩)), (5, .pointer (some ⟨g5, 0, none⟩))])
    (fun s => [.blk g5 (evC s.2.1.n (.slice s.2.2.1 s.2.1.nums.length s.2.2.2.1) (.slice s.2.2.2.2.1 s.2.1.mem.length s.2.2.2.2.2)) 37, .blk g1 (evC a.n (.slice A6 a.nums.length c6) (.slice A27 a.mem.length c27)) 37])
    (fun s => s.1 ≤ ls.length ∧ goR a (ls.drop s.1) s.2.1 = goR a ls (bgE (a.n 0) (subK a)) ∧ g26 s.2.1 ∧ (∀ w, EvRd w a A6 A27 → EvRd w s.2.1 s.2.2.1 s.2.2.2.2.1) ∧ s.2.1.nums.length ≤ maxLen ∧ s.2.1.mem.length ≤ maxLen) (fun s => ls.length - s.1)
    (0, bgE (a.n 0) (subK a), none, 0, none, 0) ⟨Nat.zero_le _, rfl, bg_26 _ _, fun w _ => ⟨rds_nil _ _ _, rds_nil _ _ _⟩, Nat.zero_le _, Nat.zero_le _⟩ (.cons rfl (.cons rfl (.cons rfl (.cons rfl (.cons rfl .nil))))) (.refl _) ?_
  rintro ⟨i, own, O6, o6, O27, o27⟩ ⟨g1', g2, h26, g3, g4, g5'⟩
  dsimp only at g1' g2 h26 g3 g4 g5' ⊢
  repeat (first | refine WC.seq ?_ | refine WC.region ?_ | refine WL.bin _ _ _ rfl (by decide) rfl rfl (fun _ => rfl) ?_)
  refine WC.cond _ rfl (fun hlt => ?_) (fun hlt => ?_)
  rotate_left
  · have hlt : ¬ (i : Int) < ls.length := of_decide_eq_false hlt
    rw [List.drop_eq_nil_of_le (by omega)] at g2
    rw [← g2] at hright
    have hright : rightP a = (sameE a own && (fewL a.nums && fewL a.mem)) := hright
    rw [hright]
    repeat (first | refine WC.seq ?_ | refine WC.region ?_ | refine WC.exit ?_ | refine WL.ld37 0 rfl (by decide) rfl rfl rfl rfl ?_ | refine WL.ld37 1 rfl (by decide) rfl rfl rfl rfl ?_)
    refine WL.call [] [] [evV a A6 c6 A27 c27, evV own O6 o6 O27 o27] _ [] _ (sameR_con a own A6 A27 O6 O27 c6 c27 o6 o27 hl ⟨g4, g5'⟩ (hw.2.1 26 (by decide)) h26) rfl (by decide) rfl Try.func50 rfl rfl rfl rfl (.refl _) (fun w hI => ⟨hR.kept hI.kp rfl, g3 _ (hR.kept hI.kp rfl)⟩) ?_
    rintro v H1 ⟨rfl, rfl⟩
    rw [List.nil_append]
    cases hsm : sameE a own with
    | false =>
      repeat (first | refine WC.ret ?_ | refine WL.move _ rfl (by decide) rfl ?_ | refine WL.assign _ rfl (by decide) rfl ?_ | refine WL.off rfl (by decide) ?_ | refine WL.pick _ _ rfl (by decide) rfl rfl ?_)
      exact QE.ret1 _ _ rfl rfl (List.nil_sublist _) ⟨rfl, rfl⟩
    | true =>
      repeat (first | refine WL.move _ rfl (by decide) rfl ?_ | refine WL.fd33_5 rfl (by decide) rfl ?_ | refine WL.fd37_1 rfl (by decide) rfl ?_ | refine WL.ld25 1 rfl (by decide) rfl rfl rfl ?_)
      refine WL.call [] [] [.slice A6 a.nums.length c6] _ [] _ (fewl_con A6 c6 a.nums hl.1) rfl (by decide) rfl Try.func77 rfl rfl rfl rfl (.refl _) (fun w hI => (hR.kept hI.kp rfl).1) ?_
      rintro v H1 ⟨rfl, rfl⟩
      rw [List.nil_append]
      cases hfn : fewL a.nums with
      | false =>
        repeat (first | refine WC.ret ?_ | refine WL.move _ rfl (by decide) rfl ?_ | refine WL.assign _ rfl (by decide) rfl ?_ | refine WL.off rfl (by decide) ?_ | refine WL.pick _ _ rfl (by decide) rfl rfl ?_)
        exact QE.ret1 _ _ rfl rfl (List.nil_sublist _) ⟨rfl, rfl⟩
      | true =>
        repeat (first | refine WL.move _ rfl (by decide) rfl ?_ | refine WL.pick _ _ rfl (by decide) rfl rfl ?_ | refine WL.fd35_11 rfl (by decide) rfl ?_ | refine WL.fd37_2 rfl (by decide) rfl ?_ | refine WL.ld25 1 rfl (by decide) rfl rfl rfl ?_)
        refine WL.call [] [] [.slice A27 a.mem.length c27] _ [] _ (fewl_con A27 c27 a.mem hl.2) rfl (by decide) rfl Try.func77 rfl rfl rfl rfl (.refl _) (fun w hI => (hR.kept hI.kp rfl).2) ?_
        rintro v H1 ⟨rfl, rfl⟩
        rw [List.nil_append]
        repeat (first | refine WC.ret ?_ | refine WL.assign _ rfl (by decide) rfl ?_ | refine WL.pick _ _ rfl (by decide) rfl rfl ?_)
        exact QE.ret1 _ _ rfl rfl (List.nil_sublist _) ⟨rfl, rfl⟩
  have hlt : (i : Int) < ls.length := of_decide_eq_true hlt
  obtain ⟨cc, hcc⟩ : ∃ cc, ls[i]? = some cc := ⟨_, List.getElem?_eq_getElem (by omega)⟩
  have hO := hmem cc (List.mem_of_getElem? hcc)
  have hdr : ls.drop i = cc :: ls.drop (i + 1) := by
    rw [List.drop_eq_getElem_cons (by omega), (List.getElem?_eq_some_iff.1 hcc).2]
  have hstep : ∀ o, stepR a cc own = some o → goR a (ls.drop (i + 1)) o = goR a ls (bgE (a.n 0) (subK a)) ∧ g26 o := fun o h => ⟨by
    rw [← g2, hdr]; simp only [goR, h], step_26 h26 h⟩
  have hbad : stepR a cc own = none → rightP a = false := fun h => by
    rw [hright, ← g2, hdr]; simp only [goR, h]
  repeat (first | refine WC.seq ?_ | refine WC.region ?_ | refine WC.block ?_ | refine WC.skip ?_ | refine WL.move _ rfl (by decide) rfl ?_ | refine WL.assign _ rfl (by decide) rfl ?_)
  refine WL.idxS ls .i64 i cc Try.underlying9 rfl (by decide) rfl rfl (by omega) hcc (ltO_rg hO) ?_
  repeat (first | refine WC.seq ?_ | refine WC.region ?_ | refine WC.block ?_ | refine WL.nil ?_ | with_reducible refine QE.then_n ?_ | refine WL.move _ rfl (by decide) rfl ?_ | refine WL.assign _ rfl (by decide) rfl ?_ | refine WL.bin _ _ _ rfl (by decide) rfl rfl (fun _ => rfl) ?_)
  rcases hO with hv | hv | hv | hv | hv
  rotate_left
  · subst hv
    have hs := hstep ⟨upd (upd own.n 13 (a.n 13)) 14 (a.n 14), own.nums, own.mem⟩ rfl
    repeat (first | refine WC.region ?_ | refine WL.nil ?_ | refine WC.cond_t rfl ?_ | refine WL.move _ rfl (by decide) rfl ?_ | refine WL.bin _ _ _ rfl (by decide) rfl rfl (fun _ => rfl) ?_ | refine WL.fd33_9 rfl (by decide) rfl ?_ | refine WL.fd37_1 rfl (by decide) rfl ?_ | refine WL.ld31 1 rfl (by decide) rfl rfl rfl rfl ?_ | refine WL.st31 0 rfl rfl rfl rfl rfl rfl rfl rfl rfl ?_)
    exact QE.round (i + 1, ⟨upd (upd own.n 13 (a.n 13)) 14 (a.n 14), own.nums, own.mem⟩, O6, o6, O27, o27) ⟨by dsimp only; omega, hs.1, hs.2, g3, g4, g5'⟩ (by dsimp only; omega) (.eq rfl (by congr 1; rw [wr_i64 (by omega) (by omega)]; dsimp only; omega) (.cons rfl (.cons rfl (.cons rfl (.cons rfl .nil))))) (.refl _)
  · subst hv
    have hs := hstep ⟨upd (upd own.n 24 (a.n 24)) 25 (a.n 25), own.nums, own.mem⟩ rfl
    repeat (first | refine WC.seq ?_ | refine WC.region ?_ | refine WL.nil ?_ | with_reducible refine QE.then_n ?_ | refine WC.cond_t rfl ?_ | refine WC.cond_f rfl ?_ | refine WL.move _ rfl (by decide) rfl ?_ | refine WL.assign _ rfl (by decide) rfl ?_ | refine WL.bin _ _ _ rfl (by decide) rfl rfl (fun _ => rfl) ?_ | refine WL.fd35_9 rfl (by decide) rfl ?_ | refine WL.fd37_2 rfl (by decide) rfl ?_ | refine WL.ld31 1 rfl (by decide) rfl rfl rfl rfl ?_ | refine WL.st31 0 rfl rfl rfl rfl rfl rfl rfl rfl rfl ?_)
    exact QE.round (i + 1, ⟨upd (upd own.n 24 (a.n 24)) 25 (a.n 25), own.nums, own.mem⟩, O6, o6, O27, o27) ⟨by dsimp only; omega, hs.1, hs.2, g3, g4, g5'⟩ (by dsimp only; omega) (.eq rfl (by congr 1; rw [wr_i64 (by omega) (by omega)]; dsimp only; omega) (.cons rfl (.cons rfl (.cons rfl (.cons rfl .nil))))) (.refl _)
  · subst hv
    have hs := hstep (own.setl 6 a.nums) rfl
    repeat (first | refine WC.seq ?_ | refine WC.region ?_ | refine WL.nil ?_ | with_reducible refine QE.then_n ?_ | refine WC.cond_t rfl ?_ | refine WC.cond_f rfl ?_ | refine WL.move _ rfl (by decide) rfl ?_ | refine WL.assign _ rfl (by decide) rfl ?_ | refine WL.bin _ _ _ rfl (by decide) rfl rfl (fun _ => rfl) ?_ | refine WL.fd33_5 rfl (by decide) rfl ?_ | refine WL.fd37_1 rfl (by decide) rfl ?_ | refine WL.ld25 1 rfl (by decide) rfl rfl rfl ?_ | refine WL.st25 0 rfl rfl rfl rfl rfl rfl rfl rfl rfl ?_)
    exact QE.round (i + 1, own.setl 6 a.nums, A6, c6, O27, o27) ⟨by dsimp only; omega, hs.1, hs.2, fun w h => ⟨h.1, (g3 w h).2⟩, hl.1, g5'⟩ (by dsimp only; omega) (.eq rfl (by congr 1; rw [wr_i64 (by omega) (by omega)]; dsimp only; omega) (.cons rfl (.cons rfl (.cons rfl (.cons rfl .nil))))) (.refl _)
  · subst hv
    have hs := hstep (own.setl 27 a.mem) rfl
    repeat (first | refine WC.seq ?_ | refine WC.region ?_ | refine WL.nil ?_ | with_reducible refine QE.then_n ?_ | refine WC.cond_t rfl ?_ | refine WC.cond_f rfl ?_ | refine WL.move _ rfl (by decide) rfl ?_ | refine WL.assign _ rfl (by decide) rfl ?_ | refine WL.bin _ _ _ rfl (by decide) rfl rfl (fun _ => rfl) ?_ | refine WL.fd35_11 rfl (by decide) rfl ?_ | refine WL.fd37_2 rfl (by decide) rfl ?_ | refine WL.ld25 1 rfl (by decide) rfl rfl rfl ?_ | refine WL.st25 0 rfl rfl rfl rfl rfl rfl rfl rfl rfl ?_)
    exact QE.round (i + 1, own.setl 27 a.mem, O6, o6, A27, c27) ⟨by dsimp only; omega, hs.1, hs.2, fun w h => ⟨(g3 w h).1, h.2⟩, g4, hl.2⟩ (by dsimp only; omega) (.eq rfl (by congr 1; rw [wr_i64 (by omega) (by omega)]; dsimp only; omega) (.cons rfl (.cons rfl (.cons rfl (.cons rfl .nil))))) (.refl _)
  obtain ⟨n1, n2, n3, n4, _, _⟩ := lets_ne hv
  refine WC.cond_f (by show some (Value.bool _) = _; simp [n1]) ?_
  repeat (first | refine WC.seq ?_ | refine WC.region ?_ | refine WL.nil ?_ | with_reducible refine QE.then_n ?_ | refine WL.assign _ rfl (by decide) rfl ?_ | refine WL.bin _ _ _ rfl (by decide) rfl rfl (fun _ => rfl) ?_)
  refine WC.cond_f (by show some (Value.bool _) = _; simp [n2]) ?_
  repeat (first | refine WC.seq ?_ | refine WC.region ?_ | refine WL.nil ?_ | with_reducible refine QE.then_n ?_ | refine WL.assign _ rfl (by decide) rfl ?_ | refine WL.bin _ _ _ rfl (by decide) rfl rfl (fun _ => rfl) ?_)
  refine WC.cond_f (by show some (Value.bool _) = _; simp [n3]) ?_
  repeat (first | refine WC.seq ?_ | refine WC.region ?_ | refine WL.nil ?_ | with_reducible refine QE.then_n ?_ | refine WL.assign _ rfl (by decide) rfl ?_ | refine WL.bin _ _ _ rfl (by decide) rfl rfl (fun _ => rfl) ?_)
  refine WC.cond_f (by show some (Value.bool _) = _; simp [n4]) ?_
  repeat (first | refine WC.seq ?_ | refine WC.region ?_ | refine WL.move _ rfl (by decide) rfl ?_ | refine WL.ld37 1 rfl (by decide) rfl rfl rfl rfl ?_)
  refine WL.call [] [] [evV a A6 c6 A27 c27, .int .u8 cc] _ [] _ (get_con a A6 A27 c6 c27 cc hv) rfl (by decide) rfl Try.func70 rfl rfl rfl rfl (.refl _) (fun _ _ => trivial) ?_
  rintro v H1 ⟨rfl, rfl⟩
  rw [List.nil_append]
  have hsR : stepR a cc own = if fitR (wdF (ltF cc)) (gtF a (ltF cc)) then some (setF own (ltF cc) (gtF a (ltF cc))) else none := by
    unfold stepR
    rw [if_neg n1, if_neg n2, if_neg n3, if_neg n4]
  repeat (first | refine WL.nil ?_ | with_reducible refine QE.then_n ?_ | refine WL.assign _ rfl (by decide) rfl ?_)
  refine WC.cut (σ := Unit) (fun _ => [(27, .int .i64 i), (26, .int .i64 ls.length), (3, .string (strOfNums ls)), (1, .pointer (some ⟨g1, 0, none⟩)), (5, .pointer (some ⟨g5, 0, none⟩)), (7, .int .u8 cc), (8, .int .i64 (gtF a (ltF cc)))])
    (fun _ => [.blk g5 (evC own.n (.slice O6 own.nums.length o6) (.slice O27 own.mem.length o27)) 37, .blk g1 (evC a.n (.slice A6 a.nums.length c6) (.slice A27 a.mem.length c27)) 37]) (fun _ => fitR (wdF (ltF cc)) (gtF a (ltF cc)) = true) ?_ ?_
  · rintro _ hfit
    have hgood : stepR a cc own = some (setF own (ltF cc) (gtF a (ltF cc))) := by rw [hsR, if_pos hfit]
    repeat (first | refine WC.region ?_ | refine WL.move _ rfl (by decide) rfl ?_ | refine WL.ld37 0 rfl (by decide) rfl rfl rfl rfl ?_)
    refine WL.call [] [] [evV own O6 o6 O27 o27, .int .u8 cc, .int .i64 (gtF a (ltF cc))] _ [] _ (put_con own O6 O27 o6 o27 cc (gtF a (ltF cc)) hv) rfl (by decide) rfl Try.func76 rfl rfl rfl rfl (.refl _) (fun _ _ => trivial) ?_
    rintro v H1 ⟨rfl, rfl⟩
    rw [List.nil_append]
    have hnm := setF_lists own (ltF cc) (gtF a (ltF cc))
    obtain ⟨o', ho'⟩ : ∃ o', o' = setF own (ltF cc) (gtF a (ltF cc)) := ⟨_, rfl⟩
    rw [← ho'] at hnm hgood ⊢
    have hs := hstep o' hgood
    unfold evV
    rw [hnm.1, hnm.2]
    repeat (first | refine WC.region ?_ | refine WL.nil ?_ | refine WL.move _ rfl (by decide) rfl ?_ | refine WL.bin _ _ _ rfl (by decide) rfl rfl (fun _ => rfl) ?_ | refine WL.st37 0 rfl rfl rfl rfl rfl rfl rfl rfl rfl ?_)
    refine QE.round (i + 1, o', O6, o6, O27, o27) ⟨by dsimp only; omega, hs.1, hs.2, fun w h => by unfold EvRd; rw [hnm.1, hnm.2]; exact g3 w h, by rw [hnm.1]; exact g4, by rw [hnm.2]; exact g5'⟩ (by dsimp only; omega) (.eq rfl (by congr 1; rw [wr_i64 (by omega) (by omega)]; dsimp only; omega) (.cons rfl (.cons rfl (.cons rfl (.cons rfl .nil))))) ?_
    dsimp only
    rw [hnm.1, hnm.2]
    exact .refl _
  · skip
    repeat (first | refine WC.seq ?_ | refine WC.region ?_ | refine WL.move _ rfl (by decide) rfl ?_)
    refine WL.call [] [] [.int .u8 cc] _ [] _ (width_con cc hv) rfl (by decide) rfl Try.func75 rfl rfl rfl rfl (.refl _) (fun _ _ => trivial) ?_
    rintro v H1 ⟨rfl, rfl⟩
    rw [List.nil_append]
    have hw8 : wdF (ltF cc) = 1 ∨ wdF (ltF cc) = 2 ∨ wdF (ltF cc) = 4 ∨ wdF (ltF cc) = 8 := by
      rcases ltF_kind2 cc with ⟨j, w, hk, hw, _⟩ | hk | ⟨_, hk⟩
      · rw [hk]; exact hw
      · rw [hk]; exact .inr (.inr (.inl rfl))
      · rw [hk]; exact .inl rfl
    generalize wdF (ltF cc) = wd at hw8 hsR ⊢
    generalize gtF a (ltF cc) = v at hsR ⊢
    rcases hw8 with rfl | rfl | rfl | rfl
    · repeat (first | refine WC.seq ?_ | refine WC.region ?_ | refine WL.move _ rfl (by decide) rfl ?_ | refine WL.assign _ rfl (by decide) rfl ?_ | refine WL.bin _ _ _ rfl (by decide) rfl rfl (fun _ => rfl) ?_)
      refine WL.split 44 _ rfl (fun h1 => ?_) (fun h1 => ?_)
      · have h1 : v < 0 := of_decide_eq_true h1
        rw [hbad (by rw [hsR, if_neg (by unfold fitR; rw [decide_eq_true h1, Bool.true_or]; decide)])]
        repeat (first | refine WC.seq ?_ | refine WC.region ?_ | refine WC.ret ?_ | refine WL.nil ?_ | with_reducible refine QE.then_n ?_ | with_reducible refine QE.then_r ?_ | with_reducible refine QE.blk_r ?_ | refine WC.cond_t rfl ?_ | refine WL.assign _ rfl (by decide) rfl ?_ | refine WL.off rfl (by decide) ?_ | refine WL.pick _ _ rfl (by decide) rfl rfl ?_)
        exact QE.ret1 _ _ rfl rfl (List.nil_sublist _) ⟨rfl, rfl⟩
      · have h1 : ¬ v < 0 := of_decide_eq_false h1
        repeat (first | refine WL.nil ?_ | with_reducible refine QE.then_n ?_ | refine WL.move _ rfl (by decide) rfl ?_ | refine WL.bin _ _ _ rfl (by decide) rfl rfl (fun _ => rfl) ?_ | refine WL.pick _ _ rfl (by decide) rfl rfl ?_)
        refine WC.cond _ rfl (fun h2 => ?_) (fun h2 => ?_)
        · have h2 : v ≥ 256 := of_decide_eq_true h2
          rw [hbad (by rw [hsR, if_neg (by unfold fitR; rw [show (256 : Int) ^ 1 = 256 by decide, decide_eq_true (show (256 : Int) ≤ v from h2), Bool.or_true]; decide)])]
          repeat (first | refine WC.seq ?_ | refine WC.region ?_ | refine WC.ret ?_ | with_reducible refine QE.then_r ?_ | with_reducible refine QE.blk_r ?_ | refine WL.assign _ rfl (by decide) rfl ?_)
          exact QE.ret1 _ _ rfl rfl (List.nil_sublist _) ⟨rfl, rfl⟩
        · have h2 : ¬ v ≥ 256 := of_decide_eq_false h2
          repeat (refine WC.skip ?_)
          exact QE.cut () (by unfold fitR; rw [show (256 : Int) ^ 1 = 256 by decide, decide_eq_false h1, decide_eq_false (show ¬ (256 : Int) ≤ v from h2)]; decide) (.cons rfl (.cons rfl (.cons rfl (.cons rfl (.cons rfl (.cons rfl (.cons rfl .nil))))))) (.refl _)
    · repeat (first | refine WC.seq ?_ | refine WC.region ?_ | refine WL.move _ rfl (by decide) rfl ?_ | refine WL.assign _ rfl (by decide) rfl ?_ | refine WL.bin _ _ _ rfl (by decide) rfl rfl (fun _ => rfl) ?_)
      refine WL.split 44 _ rfl (fun h1 => ?_) (fun h1 => ?_)
      · have h1 : v < 0 := of_decide_eq_true h1
        rw [hbad (by rw [hsR, if_neg (by unfold fitR; rw [decide_eq_true h1, Bool.true_or]; decide)])]
        repeat (first | refine WC.seq ?_ | refine WC.region ?_ | refine WC.ret ?_ | refine WL.nil ?_ | with_reducible refine QE.then_n ?_ | with_reducible refine QE.then_r ?_ | with_reducible refine QE.blk_r ?_ | refine WC.cond_t rfl ?_ | refine WL.assign _ rfl (by decide) rfl ?_ | refine WL.off rfl (by decide) ?_ | refine WL.pick _ _ rfl (by decide) rfl rfl ?_)
        exact QE.ret1 _ _ rfl rfl (List.nil_sublist _) ⟨rfl, rfl⟩
      · have h1 : ¬ v < 0 := of_decide_eq_false h1
        repeat (first | refine WL.nil ?_ | with_reducible refine QE.then_n ?_ | refine WL.move _ rfl (by decide) rfl ?_ | refine WL.bin _ _ _ rfl (by decide) rfl rfl (fun _ => rfl) ?_ | refine WL.pick _ _ rfl (by decide) rfl rfl ?_)
        refine WC.cond _ rfl (fun h2 => ?_) (fun h2 => ?_)
        · have h2 : v ≥ 65536 := of_decide_eq_true h2
          rw [hbad (by rw [hsR, if_neg (by unfold fitR; rw [show (256 : Int) ^ 2 = 65536 by decide, decide_eq_true (show (65536 : Int) ≤ v from h2), Bool.or_true]; decide)])]
          repeat (first | refine WC.seq ?_ | refine WC.region ?_ | refine WC.ret ?_ | with_reducible refine QE.then_r ?_ | with_reducible refine QE.blk_r ?_ | refine WL.assign _ rfl (by decide) rfl ?_)
          exact QE.ret1 _ _ rfl rfl (List.nil_sublist _) ⟨rfl, rfl⟩
        · have h2 : ¬ v ≥ 65536 := of_decide_eq_false h2
          repeat (refine WC.skip ?_)
          exact QE.cut () (by unfold fitR; rw [show (256 : Int) ^ 2 = 65536 by decide, decide_eq_false h1, decide_eq_false (show ¬ (65536 : Int) ≤ v from h2)]; decide) (.cons rfl (.cons rfl (.cons rfl (.cons rfl (.cons rfl (.cons rfl (.cons rfl .nil))))))) (.refl _)
    · repeat (first | refine WC.seq ?_ | refine WC.region ?_ | refine WL.move _ rfl (by decide) rfl ?_ | refine WL.assign _ rfl (by decide) rfl ?_ | refine WL.bin _ _ _ rfl (by decide) rfl rfl (fun _ => rfl) ?_)
      refine WL.split 44 _ rfl (fun h1 => ?_) (fun h1 => ?_)
      · have h1 : v < 0 := of_decide_eq_true h1
        rw [hbad (by rw [hsR, if_neg (by unfold fitR; rw [decide_eq_true h1, Bool.true_or]; decide)])]
        repeat (first | refine WC.seq ?_ | refine WC.region ?_ | refine WC.ret ?_ | refine WL.nil ?_ | with_reducible refine QE.then_n ?_ | with_reducible refine QE.then_r ?_ | with_reducible refine QE.blk_r ?_ | refine WC.cond_t rfl ?_ | refine WL.assign _ rfl (by decide) rfl ?_ | refine WL.off rfl (by decide) ?_ | refine WL.pick _ _ rfl (by decide) rfl rfl ?_)
        exact QE.ret1 _ _ rfl rfl (List.nil_sublist _) ⟨rfl, rfl⟩
      · have h1 : ¬ v < 0 := of_decide_eq_false h1
        repeat (first | refine WL.nil ?_ | with_reducible refine QE.then_n ?_ | refine WL.move _ rfl (by decide) rfl ?_ | refine WL.bin _ _ _ rfl (by decide) rfl rfl (fun _ => rfl) ?_ | refine WL.pick _ _ rfl (by decide) rfl rfl ?_)
        refine WC.cond _ rfl (fun h2 => ?_) (fun h2 => ?_)
        · have h2 : v ≥ 4294967296 := of_decide_eq_true h2
          rw [hbad (by rw [hsR, if_neg (by unfold fitR; rw [show (256 : Int) ^ 4 = 4294967296 by decide, decide_eq_true (show (4294967296 : Int) ≤ v from h2), Bool.or_true]; decide)])]
          repeat (first | refine WC.seq ?_ | refine WC.region ?_ | refine WC.ret ?_ | with_reducible refine QE.then_r ?_ | with_reducible refine QE.blk_r ?_ | refine WL.assign _ rfl (by decide) rfl ?_)
          exact QE.ret1 _ _ rfl rfl (List.nil_sublist _) ⟨rfl, rfl⟩
        · have h2 : ¬ v ≥ 4294967296 := of_decide_eq_false h2
          repeat (refine WC.skip ?_)
          exact QE.cut () (by unfold fitR; rw [show (256 : Int) ^ 4 = 4294967296 by decide, decide_eq_false h1, decide_eq_false (show ¬ (4294967296 : Int) ≤ v from h2)]; decide) (.cons rfl (.cons rfl (.cons rfl (.cons rfl (.cons rfl (.cons rfl (.cons rfl .nil))))))) (.refl _)
    · repeat (first | refine WC.seq ?_ | refine WC.region ?_ | refine WC.skip ?_ | refine WL.nil ?_ | with_reducible refine QE.then_n ?_ | refine WC.cond_f rfl ?_ | refine WL.move _ rfl (by decide) rfl ?_ | refine WL.assign _ rfl (by decide) rfl ?_ | refine WL.bin _ _ _ rfl (by decide) rfl rfl (fun _ => rfl) ?_ | refine WL.off rfl (by decide) ?_ | refine WL.pick _ _ rfl (by decide) rfl rfl ?_ | refine WL.offu rfl (by decide) ?_)
      exact QE.cut () rfl (.cons rfl (.cons rfl (.cons rfl (.cons rfl (.cons rfl (.cons rfl (.cons rfl .nil))))))) (.refl _)
end Go.Proofs.Ytalafklnnohlgaa.Cod
