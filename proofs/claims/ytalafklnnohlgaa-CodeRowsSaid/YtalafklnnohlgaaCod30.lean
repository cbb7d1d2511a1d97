/- The references' Bytes: an event's bytes. Conditions: it is of a kind; its lists are not too long. -/
import Derived.Test.YtalafklnnohlgaaCod29
namespace Go.Proofs.Ytalafklnnohlgaa.Cod
open Go.RowKit X Go.Proofs.YtalafklnnohlgaaW.PrintLast
open Oct hiding agg39 size39
set_option linter.unusedVariables false
set_option linter.unusedSimpArgs false

theorem wrap64 (x : Int) : IntKind.u64.wrap (IntKind.i64.wrap x) = IntKind.u64.wrap x := by
  rw [X.wr_u64', X.wr_u64', IntKind.wrap_i64]; omega
theorem wr_let (a : Ev) {c : Int} (hc : c ∈ lets) : beB (wdF (ltF c)) (IntKind.u64.wrap (gtF a (ltF c))) = wrF (ltFs c) a := by
  obtain ⟨n1, n2, n3, n4, _, _⟩ := lets_ne hc
  unfold ltFs
  rw [if_neg n1, if_neg n2, if_neg n3, if_neg n4]
  simp only [wrF, List.flatMap_cons, List.flatMap_nil, List.append_nil]
  rcases ltF_kind2 c with ⟨j, w, hk, _, _⟩ | hk | ⟨_, hk⟩
  · rw [hk]; rfl
  · rw [hk]
    show beB 4 (IntKind.u64.wrap (IntKind.i64.wrap (a.n 26))) = beB 4 (IntKind.u64.wrap (a.n 26))
    rw [wrap64]
  · rw [hk]
    show beB 1 (IntKind.u64.wrap (if a.n 5 = 1 then 1 else 0)) = [if a.n 5 = 1 then 1 else 0]
    by_cases h : a.n 5 = 1
    · rw [if_pos h]; rfl
    · rw [if_neg h]; rfl
theorem u8b_len (l : List Int) : (l.flatMap u8b).length = l.length := by
  induction l with
  | nil => rfl
  | cons x l ih => rw [List.flatMap_cons, List.length_append, ih]; show 1 + l.length = _; rw [List.length_cons]; omega
theorem b8_app (x y : List Int) : b8 (x ++ y) = b8 x ++ b8 y := by simp [b8]
set_option maxHeartbeats 8000000 in
set_option maxRecDepth 100000 in
theorem bytesR_con (a : Ev) (A6 A27 : Option Addr) (c6 c27 : Nat) (ls : List Int) (hf : fldL (a.n 0) (subK a) = some ls) (hl : a.nums.length ≤ 255 ∧ a.mem.length ≤ 255) :
    Con Try.prog 54 #[evV a A6 c6 A27 c27] [] (fun w => EvRd w a A6 A27) (fun v H' => ∃ A c, v = .slice A (wrR a ls).length c ∧ H' = [.row (.slice A (wrR a ls).length c) 5 1 (wrR a ls).length (b8 (wrR a ls))]) := by
  have hlen := fld_len hf
  have hmem := fldL_mem hf
  refine Con.intro Try.func54 rfl Try.ntmps54 rfl (fun w hR => ?_)
  unfold evV
  repeat (first | refine WC.seq ?_ | refine WC.region ?_)
  refine WL.box _ (evC a.n (.slice A6 a.nums.length c6) (.slice A27 a.mem.length c27)) rfl (by decide) rfl rfl (fun g1 => ?_)
  repeat (first | refine WC.seq ?_ | refine WC.region ?_ | refine WL.assign _ rfl (by decide) rfl ?_ | refine WL.fd37_0 rfl (by decide) rfl ?_ | refine WL.cv3_5 rfl (by decide) rfl ?_ | refine WL.ld3 0 rfl (by decide) rfl rfl rfl ?_)
  refine WL.know (.int .u8 (a.n 0 % 256)) (s := 10) rfl (congrArg _ (wr_u8 _)) ?_
  refine WL.buildS 1 5 1 [(0, .int .u8 (a.n 0 % 256))] [.int .u8 (a.n 0 % 256)] rfl (by decide) rfl rfl rfl (fun w => by kernel_rfl) (fun gb => ?_)
  repeat (first | refine WL.nil ?_ | with_reducible refine QE.then_n ?_ | refine WL.assign _ rfl (by decide) rfl ?_)
  obtain ⟨o0, ho0⟩ : ∃ o0, o0 = a.n 0 % 256 :: (if a.n 0 = 3 then [] else [subK a % 256]) := ⟨_, rfl⟩
  have hwr : wrR a ls = o0 ++ ls.flatMap (fun c => wrF (ltFs c) a) := by rw [ho0]; rfl
  have ho2 : o0.length ≤ 2 := by rw [ho0]; split <;> simp
  refine WC.cut (σ := Option Addr × Nat) (fun s => [(1, .pointer (some ⟨g1, 0, none⟩)), (3, .slice s.1 o0.length s.2)]) (fun s => [.row (.slice s.1 o0.length s.2) 5 1 o0.length (b8 o0), .blk g1 (evC a.n (.slice A6 a.nums.length c6) (.slice A27 a.mem.length c27)) 37]) (fun _ => True) ?_ ?_
  rotate_left
  · repeat (first | refine WC.seq ?_ | refine WC.region ?_ | refine WL.nil ?_ | with_reducible refine QE.then_n ?_ | refine WL.bin _ _ _ rfl (by decide) rfl rfl (fun _ => rfl) ?_ | refine WL.fd37_0 rfl (by decide) rfl ?_ | refine WL.ld3 1 rfl (by decide) rfl rfl rfl ?_)
    refine WC.cond _ rfl (fun h3 => ?_) (fun h3 => ?_)
    · have h3 : a.n 0 ≠ 3 := by simpa using h3
      rw [if_neg h3] at ho0
      rw [ho0]
      repeat (first | refine WC.region ?_ | refine WL.move _ rfl (by decide) rfl ?_ | refine WL.ld37 1 rfl (by decide) rfl rfl rfl rfl ?_)
      refine WL.call [] [] [evV a A6 c6 A27 c27] _ [] _ (sub_con a A6 A27 c6 c27) rfl (by decide) rfl Try.func73 rfl rfl rfl rfl (.refl _) (fun _ _ => trivial) ?_
      rintro v H1 ⟨rfl, rfl⟩
      rw [List.nil_append]
      repeat (refine WL.cv3_5 rfl (by decide) rfl ?_)
      refine WL.know (.int .u8 (subK a % 256)) (s := 18) rfl (congrArg _ (wr_u8 _)) ?_
      refine WL.buildS 1 5 1 [(0, .int .u8 (subK a % 256))] [.int .u8 (subK a % 256)] rfl (by decide) rfl rfl rfl (fun w => by kernel_rfl) (fun gb2 => ?_)
      refine WL.append 1 5 1 1 1 1 1 (.int .u8 0) _ _ [.int .u8 (a.n 0 % 256)] [.int .u8 (subK a % 256)] rfl (by decide) rfl rfl Try.underlying39 info5 rfl (by decide) rfl (fun w hI => row_reads hI (i := 0) rfl) (by simp [Value.oneCell']) (by omega) (by omega) (fun A3 c3 => ?_)
      repeat (first | refine WL.nil ?_ | refine WL.assign _ rfl (by decide) rfl ?_)
      exact QE.cut (A3, c3) trivial (.cons rfl (.cons rfl .nil)) (.cons _ (.refl _))
    · have h3 : a.n 0 = 3 := by simpa using h3
      rw [if_pos h3] at ho0
      rw [ho0]
      repeat (refine WC.skip ?_)
      exact QE.cut (some ⟨gb, 0, none⟩, 1) trivial (.cons rfl (.cons rfl .nil)) (.refl _)
  rintro ⟨A0, c0⟩ _
  clear ho0
  dsimp only
  repeat (refine WC.seq ?_)
  refine WC.draw 10 #[false, false, false, false, false, false, false, false, false, false] [.blk g1 (evC a.n (.slice A6 a.nums.length c6) (.slice A27 a.mem.length c27)) 37] [] (by kernel_rfl) rfl rfl (by repeat (first | exact List.Sublist.refl _ | exact List.nil_sublist _ | refine List.Sublist.cons_cons _ ?_ | refine List.Sublist.cons _ ?_)) ?_
  refine WA.faddr 0 #[true, false, false, false, false, false, false, false, false, false] _ _ rfl (fa37_0 _ _) rfl rfl (by decide) (by kernel_rfl) (by repeat (first | with_reducible refine Qp.then ?_ | with_reducible refine Qp.blk ?_ | with_reducible exact Qp.body)) ?_
  refine WA.load 1 #[true, true, false, false, false, false, false, false, false, false] 0 _ _ _ _ _ rfl rfl (by decide) (by repeat (first | exact List.Sublist.refl _ | exact List.nil_sublist _ | refine List.Sublist.cons_cons _ ?_ | refine List.Sublist.cons _ ?_)) (by kernel_rfl) (by repeat (first | with_reducible refine Qp.then ?_ | with_reducible refine Qp.blk ?_ | with_reducible exact Qp.body)) rfl agg3 rfl rfl ?_
  refine WA.loadA 2 #[true, true, true, false, false, false, false, false, false, false] 0 g1 0 29 _ _ 37 rfl rfl (by decide) (by repeat (first | exact List.Sublist.refl _ | exact List.nil_sublist _ | refine List.Sublist.cons_cons _ ?_ | refine List.Sublist.cons _ ?_)) (by kernel_rfl) (by repeat (first | with_reducible refine Qp.then ?_ | with_reducible refine Qp.blk ?_ | with_reducible exact Qp.body)) rfl agg37 size37 rfl rfl rfl ?_
  refine WA.call 3 #[true, true, true, true, false, false, false, false, false, false] [] [] [evV a A6 c6 A27 c27] _ [] _ (sub_con a A6 A27 c6 c27) rfl rfl (by decide) (by kernel_rfl) rfl rfl Try.func73 rfl rfl rfl rfl (.refl _) (fun _ _ => trivial) ?_
  rintro v H1 ⟨rfl, rfl⟩
  rw [List.nil_append]
  refine ⟨(by repeat (first | exact List.Sublist.refl _ | exact List.nil_sublist _ | refine List.Sublist.cons_cons _ ?_ | refine List.Sublist.cons _ ?_)), ?_⟩
  refine WA.call 4 #[true, true, true, true, true, false, false, false, false, false] [] [] [.int .i64 (a.n 0), .int .i64 (subK a)] _ [] _ (fields_con (a.n 0) (subK a)) rfl rfl (by decide) (by kernel_rfl) rfl rfl Try.func72 rfl rfl rfl rfl (.refl _) (fun _ _ => trivial) ?_
  rintro v H1 ⟨rfl, rfl⟩
  rw [List.nil_append, hf]
  refine ⟨(by repeat (first | exact List.Sublist.refl _ | exact List.nil_sublist _ | refine List.Sublist.cons_cons _ ?_ | refine List.Sublist.cons _ ?_)), ?_⟩
  refine WA.move 5 #[true, true, true, true, true, true, false, false, false, false] _ rfl rfl rfl (by decide) (by kernel_rfl) (by repeat (first | with_reducible refine Qp.then ?_ | with_reducible refine Qp.blk ?_ | with_reducible exact Qp.body)) ?_
  refine WA.extract 6 #[true, true, true, true, true, true, true, false, false, false] _ _ rfl (fun _ => rfl) rfl rfl (by decide) (by kernel_rfl) (by repeat (first | with_reducible refine Qp.then ?_ | with_reducible refine Qp.blk ?_ | with_reducible exact Qp.body)) ?_
  refine WA.extract 7 #[true, true, true, true, true, true, true, true, false, false] _ _ rfl (fun _ => rfl) rfl rfl (by decide) (by kernel_rfl) (by repeat (first | with_reducible refine Qp.then ?_ | with_reducible refine Qp.blk ?_ | with_reducible exact Qp.body)) ?_
  refine WA.assign 8 #[true, true, true, true, true, true, true, true, true, false] _ rfl rfl rfl (by decide) (by kernel_rfl) (by repeat (first | with_reducible refine Qp.then ?_ | with_reducible refine Qp.blk ?_ | with_reducible exact Qp.body)) ?_
  refine WA.assign 9 #[true, true, true, true, true, true, true, true, true, true] _ rfl rfl rfl (by decide) (by kernel_rfl) (by repeat (first | with_reducible refine Qp.then ?_ | with_reducible refine Qp.blk ?_ | with_reducible exact Qp.body)) ?_
  refine WA.done (by kernel_rfl) ?_
  simp only [Option.getD_some, Option.isSome_some]
  repeat (first | refine WC.seq ?_ | refine WC.region ?_ | refine WL.move _ rfl (by decide) rfl ?_)
  refine WL.lenS ls Try.underlying9 rfl (by decide) rfl ?_
  repeat (first | refine WC.block ?_ | refine WL.move _ rfl (by decide) rfl ?_)
  refine WC.loop (σ := Nat × Option Addr × Nat × List Int) (fun s => [(31, .int .i64 s.1), (30, .int .i64 ls.length), (4, .string (strOfNums ls)), (3, .slice s.2.1 s.2.2.2.length s.2.2.1), (1, .pointer (some ⟨g1, 0, none⟩))])
    (fun s => [.row (.slice s.2.1 s.2.2.2.length s.2.2.1) 5 1 s.2.2.2.length (b8 s.2.2.2), .blk g1 (evC a.n (.slice A6 a.nums.length c6) (.slice A27 a.mem.length c27)) 37])
    (fun s => s.1 ≤ ls.length ∧ s.2.2.2.length ≤ 2 + 300 * s.1 ∧ s.2.2.2 ++ (ls.drop s.1).flatMap (fun c => wrF (ltFs c) a) = wrR a ls) (fun s => ls.length - s.1)
    (0, A0, c0, o0) ⟨Nat.zero_le _, by dsimp only; omega, hwr.symm⟩ (.cons rfl (.cons rfl (.cons rfl (.cons rfl (.cons rfl .nil))))) (.refl _) ?_
  rintro ⟨i, A2, c2, out⟩ ⟨g2, g3, g4⟩
  dsimp only at g2 g3 g4 ⊢
  repeat (first | refine WC.seq ?_ | refine WC.region ?_ | refine WL.bin _ _ _ rfl (by decide) rfl rfl (fun _ => rfl) ?_)
  refine WC.cond _ rfl (fun hlt => ?_) (fun hlt => ?_)
  rotate_left
  · have hlt : ¬ (i : Int) < ls.length := of_decide_eq_false hlt
    rw [List.drop_eq_nil_of_le (by omega), List.flatMap_nil, List.append_nil] at g4
    repeat (first | refine WC.seq ?_ | refine WC.region ?_ | refine WC.exit ?_ | refine WC.ret ?_ | refine WL.move _ rfl (by decide) rfl ?_ | refine WL.assign _ rfl (by decide) rfl ?_)
    rw [← g4]
    exact QE.ret1 _ _ rfl rfl (.cons_cons _ (List.nil_sublist _)) ⟨A2, c2, rfl, rfl⟩
  have hlt : (i : Int) < ls.length := of_decide_eq_true hlt
  obtain ⟨cc, hcc⟩ : ∃ cc, ls[i]? = some cc := ⟨_, List.getElem?_eq_getElem (by omega)⟩
  have hO := hmem cc (List.mem_of_getElem? hcc)
  have hdr : ls.drop i = cc :: ls.drop (i + 1) := by
    rw [List.drop_eq_getElem_cons (by omega), (List.getElem?_eq_some_iff.1 hcc).2]
  have hstep : ∀ W, W = wrF (ltFs cc) a → (out ++ W) ++ (ls.drop (i + 1)).flatMap (fun c => wrF (ltFs c) a) = wrR a ls := fun W h => by
    rw [← g4, hdr, List.flatMap_cons, h, List.append_assoc]
  repeat (first | refine WC.seq ?_ | refine WC.region ?_ | refine WC.block ?_ | refine WC.skip ?_ | refine WL.move _ rfl (by decide) rfl ?_ | refine WL.assign _ rfl (by decide) rfl ?_)
  refine WL.idxS ls .i64 i cc Try.underlying9 rfl (by decide) rfl rfl (by omega) hcc (ltO_rg hO) ?_
  repeat (first | refine WC.seq ?_ | refine WC.region ?_ | refine WC.block ?_ | refine WL.nil ?_ | with_reducible refine QE.then_n ?_ | refine WL.move _ rfl (by decide) rfl ?_ | refine WL.assign _ rfl (by decide) rfl ?_ | refine WL.bin _ _ _ rfl (by decide) rfl rfl (fun _ => rfl) ?_)
  rcases hO with hv | hv | hv | hv | hv
  rotate_left
  · subst hv
    repeat (first | refine WC.region ?_ | refine WC.cond_t rfl ?_ | refine WL.move _ rfl (by decide) rfl ?_ | refine WL.fd33_9 rfl (by decide) rfl ?_ | refine WL.fd37_1 rfl (by decide) rfl ?_ | refine WL.ld31 1 rfl (by decide) rfl rfl rfl rfl ?_)
    refine WL.call [] [] [.agg #[.int .u32 (a.n 13), .int .u32 (a.n 14)]] _ [] _ (mask_ref (a.n 13) (a.n 14)) rfl (by decide) rfl Try.func78 rfl rfl rfl rfl (.refl _) (fun _ _ => trivial) ?_
    rintro v H1 ⟨P, p, rfl, rfl⟩
    rw [List.cons_append, List.nil_append]
    have hs := hstep (mk8 (a.n 13) (a.n 14)) rfl
    have hL : (mk8 (a.n 13) (a.n 14)).length = 8 := by simp [mk8, beB_len]
    refine WL.append 1 5 1 1 out.length (mk8 (a.n 13) (a.n 14)).length p (.int .u8 0) _ P (b8 out) (b8 (mk8 (a.n 13) (a.n 14))) rfl (by decide) rfl rfl Try.underlying39 info5 rfl (by decide) rfl (fun w hI => row_reads hI (i := 0) rfl) (b8_one _) (by omega) (by omega) (fun A3 c3 => ?_)
    repeat (first | refine WC.region ?_ | refine WL.nil ?_ | refine WL.move _ rfl (by decide) rfl ?_ | refine WL.assign _ rfl (by decide) rfl ?_ | refine WL.bin _ _ _ rfl (by decide) rfl rfl (fun _ => rfl) ?_)
    refine QE.round (i + 1, A3, c3, out ++ (mk8 (a.n 13) (a.n 14))) ⟨by dsimp only; omega, by dsimp only; rw [List.length_append]; omega, hs⟩ (by dsimp only; omega) (.eq rfl (by congr 1; rw [wr_i64 (by omega) (by omega)]; dsimp only; omega) (.cons rfl (.cons rfl (.eq rfl (by simp) (.cons rfl .nil))))) ?_
    dsimp only
    rw [List.length_append, b8_app]
    exact .cons _ (.refl _)
  · subst hv
    repeat (first | refine WC.seq ?_ | refine WC.region ?_ | refine WL.nil ?_ | with_reducible refine QE.then_n ?_ | refine WC.cond_t rfl ?_ | refine WC.cond_f rfl ?_ | refine WL.move _ rfl (by decide) rfl ?_ | refine WL.assign _ rfl (by decide) rfl ?_ | refine WL.bin _ _ _ rfl (by decide) rfl rfl (fun _ => rfl) ?_ | refine WL.fd35_9 rfl (by decide) rfl ?_ | refine WL.fd37_2 rfl (by decide) rfl ?_ | refine WL.ld31 1 rfl (by decide) rfl rfl rfl rfl ?_)
    refine WL.call [] [] [.agg #[.int .u32 (a.n 24), .int .u32 (a.n 25)]] _ [] _ (mask_ref (a.n 24) (a.n 25)) rfl (by decide) rfl Try.func78 rfl rfl rfl rfl (.refl _) (fun _ _ => trivial) ?_
    rintro v H1 ⟨P, p, rfl, rfl⟩
    rw [List.cons_append, List.nil_append]
    have hs := hstep (mk8 (a.n 24) (a.n 25)) rfl
    have hL : (mk8 (a.n 24) (a.n 25)).length = 8 := by simp [mk8, beB_len]
    refine WL.append 1 5 1 1 out.length (mk8 (a.n 24) (a.n 25)).length p (.int .u8 0) _ P (b8 out) (b8 (mk8 (a.n 24) (a.n 25))) rfl (by decide) rfl rfl Try.underlying39 info5 rfl (by decide) rfl (fun w hI => row_reads hI (i := 0) rfl) (b8_one _) (by omega) (by omega) (fun A3 c3 => ?_)
    repeat (first | refine WC.region ?_ | refine WL.nil ?_ | refine WL.move _ rfl (by decide) rfl ?_ | refine WL.assign _ rfl (by decide) rfl ?_ | refine WL.bin _ _ _ rfl (by decide) rfl rfl (fun _ => rfl) ?_)
    refine QE.round (i + 1, A3, c3, out ++ (mk8 (a.n 24) (a.n 25))) ⟨by dsimp only; omega, by dsimp only; rw [List.length_append]; omega, hs⟩ (by dsimp only; omega) (.eq rfl (by congr 1; rw [wr_i64 (by omega) (by omega)]; dsimp only; omega) (.cons rfl (.cons rfl (.eq rfl (by simp) (.cons rfl .nil))))) ?_
    dsimp only
    rw [List.length_append, b8_app]
    exact .cons _ (.refl _)
  · subst hv
    repeat (first | refine WC.seq ?_ | refine WC.region ?_ | refine WL.nil ?_ | with_reducible refine QE.then_n ?_ | refine WC.cond_t rfl ?_ | refine WC.cond_f rfl ?_ | refine WL.move _ rfl (by decide) rfl ?_ | refine WL.assign _ rfl (by decide) rfl ?_ | refine WL.bin _ _ _ rfl (by decide) rfl rfl (fun _ => rfl) ?_ | refine WL.fd33_5 rfl (by decide) rfl ?_ | refine WL.fd37_1 rfl (by decide) rfl ?_ | refine WL.ld25 1 rfl (by decide) rfl rfl rfl ?_)
    refine WL.call [] [] [.slice A6 a.nums.length c6] _ [] _ (list_ref A6 c6 a.nums hl.1) rfl (by decide) rfl Try.func79 rfl rfl rfl rfl (.refl _) (fun w hI => (hR.kept hI.kp rfl).1) ?_
    rintro v H1 ⟨P, p, rfl, rfl⟩
    rw [List.cons_append, List.nil_append]
    have hs := hstep (u8b a.nums.length ++ a.nums.flatMap u8b) (by simp [ltFs, wrF, wrD, Ev.lst] <;> rfl)
    have hL : (u8b a.nums.length ++ a.nums.flatMap u8b).length = 1 + a.nums.length := by rw [List.length_append, u8b_len]; rfl
    have hL2 : a.nums.length ≤ 255 := hl.1
    refine WL.append 1 5 1 1 out.length (u8b a.nums.length ++ a.nums.flatMap u8b).length p (.int .u8 0) _ P (b8 out) (b8 (u8b a.nums.length ++ a.nums.flatMap u8b)) rfl (by decide) rfl rfl Try.underlying39 info5 rfl (by decide) rfl (fun w hI => row_reads hI (i := 0) rfl) (b8_one _) (by omega) (by omega) (fun A3 c3 => ?_)
    repeat (first | refine WC.region ?_ | refine WL.nil ?_ | refine WL.move _ rfl (by decide) rfl ?_ | refine WL.assign _ rfl (by decide) rfl ?_ | refine WL.bin _ _ _ rfl (by decide) rfl rfl (fun _ => rfl) ?_)
    refine QE.round (i + 1, A3, c3, out ++ (u8b a.nums.length ++ a.nums.flatMap u8b)) ⟨by dsimp only; omega, by dsimp only; rw [List.length_append]; omega, hs⟩ (by dsimp only; omega) (.eq rfl (by congr 1; rw [wr_i64 (by omega) (by omega)]; dsimp only; omega) (.cons rfl (.cons rfl (.eq rfl (by simp) (.cons rfl .nil))))) ?_
    dsimp only
    rw [List.length_append, b8_app]
    exact .cons _ (.refl _)
  · subst hv
    repeat (first | refine WC.seq ?_ | refine WC.region ?_ | refine WL.nil ?_ | with_reducible refine QE.then_n ?_ | refine WC.cond_t rfl ?_ | refine WC.cond_f rfl ?_ | refine WL.move _ rfl (by decide) rfl ?_ | refine WL.assign _ rfl (by decide) rfl ?_ | refine WL.bin _ _ _ rfl (by decide) rfl rfl (fun _ => rfl) ?_ | refine WL.fd35_11 rfl (by decide) rfl ?_ | refine WL.fd37_2 rfl (by decide) rfl ?_ | refine WL.ld25 1 rfl (by decide) rfl rfl rfl ?_)
    refine WL.call [] [] [.slice A27 a.mem.length c27] _ [] _ (list_ref A27 c27 a.mem hl.2) rfl (by decide) rfl Try.func79 rfl rfl rfl rfl (.refl _) (fun w hI => (hR.kept hI.kp rfl).2) ?_
    rintro v H1 ⟨P, p, rfl, rfl⟩
    rw [List.cons_append, List.nil_append]
    have hs := hstep (u8b a.mem.length ++ a.mem.flatMap u8b) (by simp [ltFs, wrF, wrD, Ev.lst] <;> rfl)
    have hL : (u8b a.mem.length ++ a.mem.flatMap u8b).length = 1 + a.mem.length := by rw [List.length_append, u8b_len]; rfl
    have hL2 : a.mem.length ≤ 255 := hl.2
    refine WL.append 1 5 1 1 out.length (u8b a.mem.length ++ a.mem.flatMap u8b).length p (.int .u8 0) _ P (b8 out) (b8 (u8b a.mem.length ++ a.mem.flatMap u8b)) rfl (by decide) rfl rfl Try.underlying39 info5 rfl (by decide) rfl (fun w hI => row_reads hI (i := 0) rfl) (b8_one _) (by omega) (by omega) (fun A3 c3 => ?_)
    repeat (first | refine WC.region ?_ | refine WL.nil ?_ | refine WL.move _ rfl (by decide) rfl ?_ | refine WL.assign _ rfl (by decide) rfl ?_ | refine WL.bin _ _ _ rfl (by decide) rfl rfl (fun _ => rfl) ?_)
    refine QE.round (i + 1, A3, c3, out ++ (u8b a.mem.length ++ a.mem.flatMap u8b)) ⟨by dsimp only; omega, by dsimp only; rw [List.length_append]; omega, hs⟩ (by dsimp only; omega) (.eq rfl (by congr 1; rw [wr_i64 (by omega) (by omega)]; dsimp only; omega) (.cons rfl (.cons rfl (.eq rfl (by simp) (.cons rfl .nil))))) ?_
    dsimp only
    rw [List.length_append, b8_app]
    exact .cons _ (.refl _)
  obtain ⟨n1, n2, n3, n4, _, _⟩ := lets_ne hv
  refine WC.cond_f (by show some (Value.bool _) = _; simp [n1]) ?_
  repeat (first | refine WC.seq ?_ | refine WC.region ?_ | refine WL.nil ?_ | with_reducible refine QE.then_n ?_ | refine WL.assign _ rfl (by decide) rfl ?_ | refine WL.bin _ _ _ rfl (by decide) rfl rfl (fun _ => rfl) ?_)
  refine WC.cond_f (by show some (Value.bool _) = _; simp [n2]) ?_
  repeat (first | refine WC.seq ?_ | refine WC.region ?_ | refine WL.nil ?_ | with_reducible refine QE.then_n ?_ | refine WL.assign _ rfl (by decide) rfl ?_ | refine WL.bin _ _ _ rfl (by decide) rfl rfl (fun _ => rfl) ?_)
  refine WC.cond_f (by show some (Value.bool _) = _; simp [n3]) ?_
  repeat (first | refine WC.seq ?_ | refine WC.region ?_ | refine WL.nil ?_ | with_reducible refine QE.then_n ?_ | refine WL.assign _ rfl (by decide) rfl ?_ | refine WL.bin _ _ _ rfl (by decide) rfl rfl (fun _ => rfl) ?_)
  refine WC.cond_f (by show some (Value.bool _) = _; simp [n4]) ?_
  repeat (first | refine WC.region ?_ | refine WL.move _ rfl (by decide) rfl ?_ | refine WL.ld37 1 rfl (by decide) rfl rfl rfl rfl ?_)
  refine WL.call [] [] [evV a A6 c6 A27 c27, .int .u8 cc] _ [] _ (get_con a A6 A27 c6 c27 cc hv) rfl (by decide) rfl Try.func70 rfl rfl rfl rfl (.refl _) (fun _ _ => trivial) ?_
  rintro v H1 ⟨rfl, rfl⟩
  rw [List.nil_append]
  repeat (first | refine WL.move _ rfl (by decide) rfl ?_ | refine WL.cv2_53 rfl (by decide) rfl ?_)
  refine WL.call [] [] [.int .u8 cc] _ [] _ (width_con cc hv) rfl (by decide) rfl Try.func75 rfl rfl rfl rfl (.refl _) (fun _ _ => trivial) ?_
  rintro v H1 ⟨rfl, rfl⟩
  rw [List.nil_append]
  refine WL.call [] [] [.int .u64 (IntKind.u64.wrap (gtF a (ltF cc))), .int .i64 (wdF (ltF cc))] _ [] _ (number_con (IntKind.u64.wrap (gtF a (ltF cc))) (wdF (ltF cc)) wd_le) rfl (by decide) rfl Try.func57 rfl rfl rfl rfl (.refl _) (fun _ _ => trivial) ?_
  rintro v H1 ⟨P, p, rfl, rfl⟩
  rw [List.cons_append, List.nil_append]
  have hs := hstep (beB (wdF (ltF cc)) (IntKind.u64.wrap (gtF a (ltF cc)))) (wr_let a hv)
  have hL : (beB (wdF (ltF cc)) (IntKind.u64.wrap (gtF a (ltF cc)))).length ≤ 8 := by rw [beB_len]; exact wd_le
  refine WL.append 1 5 1 1 out.length (beB (wdF (ltF cc)) (IntKind.u64.wrap (gtF a (ltF cc)))).length p (.int .u8 0) _ P (b8 out) (b8 (beB (wdF (ltF cc)) (IntKind.u64.wrap (gtF a (ltF cc))))) rfl (by decide) rfl rfl Try.underlying39 info5 rfl (by decide) rfl (fun w hI => row_reads hI (i := 0) rfl) (b8_one _) (by omega) (by omega) (fun A3 c3 => ?_)
  repeat (first | refine WC.region ?_ | refine WL.nil ?_ | refine WL.move _ rfl (by decide) rfl ?_ | refine WL.assign _ rfl (by decide) rfl ?_ | refine WL.bin _ _ _ rfl (by decide) rfl rfl (fun _ => rfl) ?_)
  refine QE.round (i + 1, A3, c3, out ++ (beB (wdF (ltF cc)) (IntKind.u64.wrap (gtF a (ltF cc))))) ⟨by dsimp only; omega, by dsimp only; rw [List.length_append]; omega, hs⟩ (by dsimp only; omega) (.eq rfl (by congr 1; rw [wr_i64 (by omega) (by omega)]; dsimp only; omega) (.cons rfl (.cons rfl (.eq rfl (by simp) (.cons rfl .nil))))) ?_
  dsimp only
  rw [List.length_append, b8_app]
  exact .cons _ (.refl _)
end Go.Proofs.Ytalafklnnohlgaa.Cod
