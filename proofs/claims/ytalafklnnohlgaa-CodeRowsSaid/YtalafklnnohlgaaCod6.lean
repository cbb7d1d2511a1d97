/- code's carrier: a list, out of bytes. No condition but that one reads within the bytes. -/
import Derived.Test.YtalafklnnohlgaaCod5
namespace Go.Proofs.Ytalafklnnohlgaa.Cod
open Go.RowKit X Go.Proofs.YtalafklnnohlgaaW.PrintLast
open Oct hiding agg39 size39
set_option linter.unusedVariables false
set_option linter.unusedSimpArgs false

theorem permG {n r : Ck} (X Y : List Ck) : ((X ++ [n, r]) ++ Y).Perm (r :: n :: (X ++ Y)) := List.Perm.append_right Y (permB X)
theorem info3 : (Try.prog.info? 3).map (fun i => (i.zero, i.size, i.bytes)) = some (some (.int .i64 0), 1, 8) := by kernel_rfl

/-- What holds in the loop. -/
structure LI (l : List Int) (wk1 : Nat) (er1 v1 : Int) (i : Nat) (xs : List Int) (wk' : Nat) (er' : Int) : Prop where
  le : (i : Int) ≤ v1
  wk : wk' ≤ l.length
  er : er' = 0 ∨ er' = 7
  go : er' = 0 → xs = (l.drop wk1).take i ∧ xs.length = i ∧ wk' = wk1 + i
  no : er' = 7 → er1 = 7 ∨ ((l.length - wk1 : Nat) : Int) < v1
  st : er1 = 7 → er' = 7
  xl : xs.length ≤ i
theorem LI.step {l : List Int} {wk1 : Nat} {er1 v1 : Int} {i : Nat} {xs : List Int} {wk' : Nat} (h : LI l wk1 er1 v1 i xs wk' 0) (hb : Byt l) (hl : l.length ≤ 140737488355328) (hi : (i : Int) < v1) :
    (erR l.length wk' 0 (1 : Nat) = 0 ∧ LI l wk1 er1 v1 (i + 1) (xs ++ [IntKind.i64.wrap (beU (tkR l wk' 0 (1 : Nat)))]) (wkR l.length wk' 0 (1 : Nat)) (erR l.length wk' 0 (1 : Nat))) ∨
    (erR l.length wk' 0 (1 : Nat) = 7 ∧ LI l wk1 er1 v1 (i + 1) xs (wkR l.length wk' 0 (1 : Nat)) (erR l.length wk' 0 (1 : Nat))) := by
  obtain ⟨h1, h2, h3⟩ := h.go rfl
  rcases one_byte ⟨h.wk, hl, hb, .inl rfl⟩ with ⟨_, x, d, x0, x1, hv, hw, he, hle⟩ | ⟨hc, hv, he, hw⟩
  · rw [hv, hw, he]
    have hx : (l.drop wk1)[i]? = some x := by
      rw [List.getElem?_drop, ← h3]
      have := congrArg (fun q => q[0]?) d
      simpa using this
    refine .inl ⟨rfl, ⟨by omega, hle, .inl rfl, fun _ => ⟨?_, by simp [h2], by omega⟩, (fun h => by cases h), fun h' => by have := h.st h'; omega, by simp [h2]⟩⟩
    rw [List.take_add_one, hx, h1]; simp
  · rw [hw, he]
    have hd : l.length ≤ wk' := by
      rcases hc with ⟨_, hd⟩ | hc
      · exact List.drop_eq_nil_iff.1 hd
      · omega
    have := h.wk
    exact .inr ⟨rfl, ⟨by omega, h.wk, .inr rfl, (fun h => by cases h), fun _ => .inr (by omega), fun _ => rfl, by have := h.xl; omega⟩⟩
theorem LI.T {rg : Nat} {A : Option Addr} {c : Nat} {l : List Int} {wk : Nat} {er : Int} {bad N : Bool} {e : Ev} {J : Nat} {v1 : Int} {i wk' : Nat} {xs : List Int} {er' : Int} (hr : Cod.room 300 (.r rg A c l wk er bad)) (hv1 : v1 = IntKind.i64.wrap (beU (tkR l wk er (1 : Nat)))) (hN : N = (bad || decide (32 < v1)))
    (h : LI l (wkR l.length wk er (1 : Nat)) (erR l.length wk er (1 : Nat)) v1 i xs wk' er') (hx : (i : Int) = v1 ∨ N = true ∨ er' ≠ 0) : Cod.T [.l J] (.r rg A c l wk er bad) e (.r rg A c l wk' er' N) (e.setl J xs) := by
  have hrr := hr
  obtain ⟨h1, h2, h3, h4⟩ := hrr
  refine ⟨_, _, _, rfl, ⟨h.wk, h2, h3, h.er⟩, ?_⟩
  simp only [rdF, List.foldl_cons, List.foldl_nil]
  cases bad with
  | true => rw [hN]; rfl
  | false =>
    simp only [Bool.false_or] at hN
    rcases one_byte hr with ⟨rfl, x, d, x0, x1, hv, hw, he, hl⟩ | ⟨hc, hv, he, hw⟩
    · rw [hv] at hv1
      subst hv1
      rw [he, hw] at h
      simp only [resOf, Bool.false_eq_true, if_false, ne_eq, not_true, d, rdD]
      by_cases hx32 : 32 < v1
      · simp [hN, hx32]
      · have hN' : N = false := by rw [hN]; exact decide_eq_false hx32
        subst hN'
        simp only [hx32, if_false, Bool.false_eq_true]
        have hdl : (l.drop (wk + 1)).length = l.length - (wk + 1) := List.length_drop
        rcases h.er with he' | he'
        · subst he'
          obtain ⟨g1, g2, g3⟩ := h.go rfl
          rcases hx with hx | hx | hx
          · have hxi : v1.toNat = i := by omega
            rw [hxi]
            have hle : ¬ (l.drop (wk + 1)).length < i := by
              have := congrArg List.length g1
              rw [List.length_take, g2] at this
              omega
            rw [if_neg hle, if_neg (by simp)]
            rw [g1, g3, List.drop_drop]
          · cases hx
          · exact absurd rfl hx
        · have hno : ((l.length - (wk + 1) : Nat) : Int) < v1 := by
            rcases h.no he' with h' | h'
            · cases h'
            · exact h'
          rw [if_pos (by omega), if_pos (by omega)]
    · rw [hv] at hv1
      have her : er' = 7 := h.st he
      have hN' : N = false := by rw [hN, hv1]; decide
      subst hN'
      rw [her]
      rcases hc with ⟨rfl, hd⟩ | rfl
      · simp [resOf, hd, rdD]
      · simp [resOf, rdD]

set_option maxHeartbeats 8000000 in
set_option maxRecDepth 100000 in
theorem list_r6 (rg : Nat) (A : Option Addr) (c : Nat) (l : List Int) (wk : Nat) (er : Int) (bad : Bool) (e : Ev) (oo : Value) (cg g : Nat) (B : Option Addr) (n0 k : Nat) (hr : Cod.room 300 (.r rg A c l wk er bad)) :
    Con Try.prog 101 #[pt cg, .pointer (some ⟨g, 6, none⟩)] (carH cg (.r rg A c l wk er bad) ++ [.blk g (evC e.n (.slice B n0 k) oo) 37]) (fun _ => True)
      (fun r H' => r = .tuple #[] ∧ ∃ s' A' c' xs, T [.l 6] (.r rg A c l wk er bad) e s' (e.setl 6 xs) ∧ xs.length ≤ 255 ∧ H' = carH cg s' ++ [.blk g (evC e.n (.slice A' xs.length c') oo) 37, .row (.slice A' xs.length c') 3 1 xs.length (i64s xs)]) := by
  refine Con.intro Try.func101 rfl Try.ntmps101 rfl (fun w hR => ?_)
  have hrr := hr
  obtain ⟨hwk, hln, hby, her⟩ := hrr
  simp only [carH, pt, List.cons_append, List.nil_append]
  repeat (first | refine WC.seq ?_ | refine WC.region ?_ | refine WL.move _ rfl (by decide) rfl ?_ | refine WL.nilc _ rfl (by decide) rfl ?_ | refine WL.ln25 rfl (by decide) rfl ?_ | refine WL.ld25 3 rfl (by decide) rfl rfl rfl ?_)
  refine WL.alloc (.int .i64 0) [.int .i64 0] rfl (by decide) (fun w => by kernel_rfl) rfl (fun nb => ?_)
  repeat (first | refine WC.seq ?_ | refine WC.region ?_ | refine WL.move _ rfl (by decide) rfl ?_ | refine WL.st3 0 rfl rfl rfl rfl rfl rfl rfl rfl rfl ?_)
  refine WL.buildS 1 126 1 [(0, .pointer (some ⟨nb, 0, none⟩))] (ptrs nb [0]) rfl (by decide) rfl rfl rfl (fun w => by kernel_rfl) (fun gb => ?_)
  skip
  refine WL.call [] [] [pt cg, .slice (some ⟨gb, 0, none⟩) 1 1] _ _ [.blk g (evC e.n (.slice B n0 k) oo) 37] (small_con (.r rg A c l wk er bad) cg nb 3 gb [.int .i64 n0] [0] (by decide) (by simp) (room_le hr (by decide))) rfl (by decide) rfl Try.func80 rfl rfl rfl rfl (permG [_, _, _] _) (fun _ _ => trivial) ?_
  rintro r H1 ⟨rfl, s', cs', hs, rfl⟩
  obtain ⟨v1, rfl, rfl, hv1⟩ := small_one hs
  simp only [carH, pt, List.cons_append, List.nil_append]
  have hv01 : 0 ≤ v1 ∧ v1 < 256 := by
    rcases one_byte hr with ⟨_, x, d, x0, x1, hv, hw, he, hl⟩ | ⟨hc, hv, he, hw⟩ <;> (rw [hv1, hv]; omega)
  have hi0 : LI l (wkR l.length wk er (1 : Nat)) (erR l.length wk er (1 : Nat)) v1 0 [] (wkR l.length wk er (1 : Nat)) (erR l.length wk er (1 : Nat)) :=
    ⟨by omega, wkR_le hwk, er_cases _ _ _ _ her, fun _ => ⟨by simp, rfl, rfl⟩, fun h => .inl h, fun h => h, Nat.le_refl _⟩
  obtain ⟨wk1, hwk1⟩ : ∃ wk1, wk1 = wkR l.length wk er (1 : Nat) := ⟨_, rfl⟩
  obtain ⟨er1, her1⟩ : ∃ er1, er1 = erR l.length wk er (1 : Nat) := ⟨_, rfl⟩
  rw [← hwk1, ← her1] at hi0 ⊢
  obtain ⟨N, hN⟩ : ∃ N : Bool, N = (bad || decide (32 < v1)) := ⟨_, rfl⟩
  refine WC.cut (σ := Unit) (fun _ => [(0, .pointer (some ⟨cg, 0, none⟩)), (1, .pointer (some ⟨g, 6, none⟩)), (4, .pointer (some ⟨nb, 0, none⟩))])
    (fun _ => [.blk cg [.pointer (some ⟨rg, 0, none⟩), .slice none 0 0, .bool N] 96, .blk rg [.slice A l.length c, .int .i64 wk1, .int .i64 er1] 109, .row (.slice A l.length c) 5 1 l.length (b8 l), .blk nb [.int .i64 v1] 3, .blk g (evC e.n (.slice B n0 k) oo) 37]) (fun _ => True) ?_ ?_
  · rintro _ _
    repeat (first | refine WC.seq ?_ | refine WC.region ?_ | refine WL.nil ?_ | with_reducible refine QE.then_n ?_ | refine WC.cond_t rfl ?_ | refine WL.move _ rfl (by decide) rfl ?_ | refine WL.bin _ _ _ rfl (by decide) rfl rfl (fun _ => rfl) ?_ | refine WL.nilc _ rfl (by decide) rfl ?_ | refine WL.fd96_0 rfl (by decide) rfl ?_ | refine WL.ld68 0 rfl (by decide) rfl rfl rfl ?_)
    refine WL.st25 4 rfl rfl rfl rfl rfl rfl rfl rfl rfl ?_
    repeat (first | refine WL.nil ?_ | with_reducible refine QE.then_n ?_)
    refine WC.nilrow 3 1 ?_
    refine WC.perm _ (List.perm_append_comm (l₁ := [_, _, _, _, _]) (l₂ := [_])) ?_
    repeat (first | refine WC.seq ?_ | refine WC.region ?_ | refine WC.block ?_ | refine WL.assign _ rfl (by decide) rfl ?_)
    refine WC.loop (σ := Nat × Option Addr × Nat × List Int × Nat × Int) (fun x => [(5, .int .i64 x.1), (0, .pointer (some ⟨cg, 0, none⟩)), (1, .pointer (some ⟨g, 6, none⟩)), (4, .pointer (some ⟨nb, 0, none⟩))])
      (fun x => [.blk cg [.pointer (some ⟨rg, 0, none⟩), .slice none 0 0, .bool N] 96, .blk rg [.slice A l.length c, .int .i64 x.2.2.2.2.1, .int .i64 x.2.2.2.2.2] 109, .row (.slice A l.length c) 5 1 l.length (b8 l), .blk nb [.int .i64 v1] 3, .blk g (evC e.n (.slice x.2.1 x.2.2.2.1.length x.2.2.1) oo) 37, .row (.slice x.2.1 x.2.2.2.1.length x.2.2.1) 3 1 x.2.2.2.1.length (i64s x.2.2.2.1)])
      (fun x => LI l wk1 er1 v1 x.1 x.2.2.2.1 x.2.2.2.2.1 x.2.2.2.2.2) (fun x => v1.toNat - x.1)
      (0, none, 0, [], wk1, er1) hi0 (.cons rfl (.cons rfl (.cons rfl (.cons rfl .nil)))) (.refl _) ?_
    rintro ⟨i, A2, c2, xs, wk2, er2⟩ h1
    dsimp only at h1 ⊢
    have hie := h1.le
    have hxl := h1.xl
    repeat (first | refine WC.seq ?_ | refine WC.region ?_ | refine WL.move _ rfl (by decide) rfl ?_ | refine WL.bin _ _ _ rfl (by decide) rfl rfl (fun _ => rfl) ?_ | refine WL.ld3 3 rfl (by decide) rfl rfl rfl ?_)
    refine WL.split 29 _ rfl (fun hb => ?_) (fun hb => ?_)
    · have hb : (i : Int) < v1 := of_decide_eq_true hb
      repeat (refine WL.move _ rfl (by decide) rfl ?_)
      refine WL.call [] [] [pt cg] _ _ [.blk nb [.int .i64 v1] 3, .blk g (evC e.n (.slice A2 xs.length c2) oo) 37, .row (.slice A2 xs.length c2) 3 1 xs.length (i64s xs)] (stops_con (.r rg A c l wk2 er2 N) cg) rfl (by decide) rfl Try.func58 rfl rfl rfl rfl (.refl _) (fun _ _ => trivial) ?_
      rintro r H1 ⟨rfl, rfl⟩
      simp only [carH, stopB, pt, List.cons_append, List.nil_append]
      obtain ⟨S, hS⟩ : ∃ S : Bool, S = (N || decide (er2 ≠ 0)) := ⟨_, rfl⟩
      rw [← hS]
      cases S
      · have hNf : N = false := by cases N; rfl; simp at hS
        have he0 : er2 = 0 := by rw [hNf] at hS; simpa using hS
        subst he0
        repeat (first | refine WC.seq ?_ | refine WC.region ?_ | refine WC.block ?_ | refine WC.skip ?_ | refine WL.nil ?_ | with_reducible refine QE.then_n ?_ | refine WC.cond_t rfl ?_ | refine WL.un _ _ rfl (by decide) rfl (fun _ => rfl) ?_ | refine WL.pick _ _ rfl (by decide) rfl rfl ?_)
        refine WL.alloc (.int .i64 0) [.int .i64 0] rfl (by decide) (fun w => by kernel_rfl) rfl (fun xb => ?_)
        repeat (first | refine WC.seq ?_ | refine WC.region ?_ | refine WC.skip ?_ | refine WL.nil ?_ | with_reducible refine QE.then_n ?_ | refine WC.cond_f rfl ?_ | refine WL.move _ rfl (by decide) rfl ?_ | refine WL.bin _ _ _ rfl (by decide) rfl rfl (fun _ => rfl) ?_ | refine WL.nilc _ rfl (by decide) rfl ?_ | refine WL.fd96_0 rfl (by decide) rfl ?_ | refine WL.ld68 1 rfl (by decide) rfl rfl rfl ?_ | refine WL.st3 0 rfl rfl rfl rfl rfl rfl rfl rfl rfl ?_)
        refine WL.buildS 1 126 1 [(0, .pointer (some ⟨xb, 0, none⟩))] (ptrs xb [0]) rfl (by decide) rfl rfl rfl (fun w => by kernel_rfl) (fun gb2 => ?_)
        skip
        refine WL.call [] [] [pt cg, .slice (some ⟨gb2, 0, none⟩) 1 1] _ _ [.blk nb [.int .i64 v1] 3, .blk g (evC e.n (.slice A2 xs.length c2) oo) 37, .row (.slice A2 xs.length c2) 3 1 xs.length (i64s xs)] (small_con (.r rg A c l wk2 0 N) cg xb 3 gb2 [.int .i64 0] [0] (by decide) (by simp) ⟨h1.wk, hln, hby, .inl rfl⟩) rfl (by decide) rfl Try.func80 rfl rfl rfl rfl (permG [_, _, _] _) (fun _ _ => trivial) ?_
        rintro r H1 ⟨rfl, s', cs', hs, rfl⟩
        obtain ⟨v2, rfl, rfl, hv2⟩ := small_one hs
        simp only [carH, pt, List.cons_append, List.nil_append]
        repeat (first | refine WC.seq ?_ | refine WC.region ?_ | refine WL.move _ rfl (by decide) rfl ?_ | refine WL.bin _ _ _ rfl (by decide) rfl rfl (fun _ => rfl) ?_ | refine WL.nilc _ rfl (by decide) rfl ?_ | refine WL.fd96_0 rfl (by decide) rfl ?_ | refine WL.ld68 0 rfl (by decide) rfl rfl rfl ?_)
        refine WL.call [] [] [pt cg] _ _ [.blk xb [.int .i64 v2] 3, .blk nb [.int .i64 v1] 3, .blk g (evC e.n (.slice A2 xs.length c2) oo) 37, .row (.slice A2 xs.length c2) 3 1 xs.length (i64s xs)] (stops_con (.r rg A c l (wkR l.length wk2 0 (1 : Nat)) (erR l.length wk2 0 (1 : Nat)) N) cg) rfl (by decide) rfl Try.func58 rfl rfl rfl rfl (.refl _) (fun _ _ => trivial) ?_
        rintro r H1 ⟨rfl, rfl⟩
        simp only [carH, stopB, pt, List.cons_append, List.nil_append]
        subst hNf
        rcases h1.step hby hln hb with ⟨hs0, hst⟩ | ⟨hs0, hst⟩
        · rw [hs0] at hst ⊢
          rw [← hv2] at hst
          simp only [Bool.false_or, ne_eq, not_true, decide_false]
          repeat (first | refine WL.nil ?_ | with_reducible refine QE.then_n ?_ | refine WC.cond_t rfl ?_ | refine WL.un _ _ rfl (by decide) rfl (fun _ => rfl) ?_ | refine WL.pick _ _ rfl (by decide) rfl rfl ?_)
          refine WC.draw 9 #[false, false, false, false, false, false, false, false, false] [.blk xb [.int .i64 v2] 3, .blk g (evC e.n (.slice A2 xs.length c2) oo) 37] [6, 8] (by kernel_rfl) rfl rfl (by repeat (first | exact List.Sublist.refl _ | exact List.nil_sublist _ | refine List.Sublist.cons_cons _ ?_ | refine List.Sublist.cons _ ?_)) ?_
          refine WA.move 0 #[true, false, false, false, false, false, false, false, false] _ rfl rfl rfl (by decide) (by kernel_rfl) (by repeat (first | with_reducible refine Qp.then ?_ | with_reducible refine Qp.blk ?_ | with_reducible exact Qp.body)) ?_
          refine WA.move 1 #[true, true, false, false, false, false, false, false, false] _ rfl rfl rfl (by decide) (by kernel_rfl) (by repeat (first | with_reducible refine Qp.then ?_ | with_reducible refine Qp.blk ?_ | with_reducible exact Qp.body)) ?_
          refine WA.nilc 2 #[true, true, true, false, false, false, false, false, false] _ rfl rfl rfl (by decide) (by kernel_rfl) (by repeat (first | with_reducible refine Qp.then ?_ | with_reducible refine Qp.blk ?_ | with_reducible exact Qp.body)) ?_
          refine WA.load 3 #[true, true, true, true, false, false, false, false, false] 1 _ _ _ _ _ rfl rfl (by decide) (by repeat (first | exact List.Sublist.refl _ | exact List.nil_sublist _ | refine List.Sublist.cons_cons _ ?_ | refine List.Sublist.cons _ ?_)) (by kernel_rfl) (by repeat (first | with_reducible refine Qp.then ?_ | with_reducible refine Qp.blk ?_ | with_reducible exact Qp.body)) rfl agg25 rfl rfl ?_
          refine WA.load 4 #[true, true, true, true, true, false, false, false, false] 0 _ _ _ _ _ rfl rfl (by decide) (by repeat (first | exact List.Sublist.refl _ | exact List.nil_sublist _ | refine List.Sublist.cons_cons _ ?_ | refine List.Sublist.cons _ ?_)) (by kernel_rfl) (by repeat (first | with_reducible refine Qp.then ?_ | with_reducible refine Qp.blk ?_ | with_reducible exact Qp.body)) rfl agg3 rfl rfl ?_
          refine WA.buildS 5 #[true, true, true, true, true, true, false, false, false] 1 3 1 [(0, .int .i64 v2)] [.int .i64 v2] rfl rfl (by decide) (by kernel_rfl) rfl (by repeat (first | exact List.Sublist.refl _ | exact List.nil_sublist _ | refine List.Sublist.cons_cons _ ?_ | refine List.Sublist.cons _ ?_)) rfl rfl rfl (fun w => by kernel_rfl) (fun gb3 => ?_)
          refine WA.append 6 #[true, true, true, true, true, true, true, false, false] 7 3 1 8 xs.length 1 1 (.int .i64 0) _ _ (i64s xs) [.int .i64 v2] rfl rfl (by decide) (by kernel_rfl) rfl rfl rfl Try.underlying25 info3 rfl (by decide) rfl (fun w hI => row_reads hI (i := 0) rfl) (by simp [Value.oneCell']) (by omega) (by omega) (fun A3 c3 => ?_)
          refine WA.nilc 7 #[true, true, true, true, true, true, true, true, false] _ rfl rfl rfl (by decide) (by kernel_rfl) (by repeat (first | with_reducible refine Qp.then ?_ | with_reducible refine Qp.blk ?_ | with_reducible exact Qp.body)) ?_
          refine WA.store 8 #[true, true, true, true, true, true, true, true, true] 6 g 6 _ _ _ _ _ rfl rfl (by kernel_rfl) rfl rfl rfl rfl rfl size25 rfl rfl rfl ?_
          refine WA.done (by kernel_rfl) ?_
          repeat (first | refine WC.region ?_ | refine WL.nil ?_ | refine WL.move _ rfl (by decide) rfl ?_ | refine WL.assign _ rfl (by decide) rfl ?_ | refine WL.bin _ _ _ rfl (by decide) rfl rfl (fun _ => rfl) ?_)
          refine QE.round (i + 1, A3, c3, xs ++ [v2], wkR l.length wk2 0 (1 : Nat), 0) hst (by dsimp only; omega) (.eq rfl (by congr 1; rw [wr_i64 (by omega) (by omega)]; simp) (.cons rfl (.cons rfl (.cons rfl .nil)))) ?_
          dsimp only
          rw [show i64s (xs ++ [v2]) = i64s xs ++ [.int .i64 v2] by simp [i64s], List.length_append]
          exact .cons _ (.cons_cons _ (.cons_cons _ (.cons_cons _ (.cons _ (.cons_cons _ (.cons_cons _ (.refl _)))))))
        · rw [hs0] at hst ⊢
          simp only [Bool.false_or, ne_eq, show ¬ ((7 : Int) = 0) by decide, not_false_eq_true, decide_true]
          repeat (first | refine WC.region ?_ | refine WC.skip ?_ | refine WL.nil ?_ | with_reducible refine QE.then_n ?_ | refine WC.cond_f rfl ?_ | refine WL.move _ rfl (by decide) rfl ?_ | refine WL.assign _ rfl (by decide) rfl ?_ | refine WL.bin _ _ _ rfl (by decide) rfl rfl (fun _ => rfl) ?_ | refine WL.un _ _ rfl (by decide) rfl (fun _ => rfl) ?_ | refine WL.pick _ _ rfl (by decide) rfl rfl ?_)
          exact QE.round (i + 1, A2, c2, xs, wkR l.length wk2 0 (1 : Nat), 7) hst (by dsimp only; omega) (.eq rfl (by congr 1; rw [wr_i64 (by omega) (by omega)]; simp) (.cons rfl (.cons rfl (.cons rfl .nil)))) (.cons_cons _ (.cons_cons _ (.cons_cons _ (.cons _ (.refl _)))))
      · repeat (first | refine WC.exit ?_ | refine WL.nil ?_ | with_reducible refine QE.then_n ?_ | with_reducible refine QE.then_e ?_ | with_reducible refine QE.blk_hit ?_ | refine WC.cond_f rfl ?_ | refine WL.un _ _ rfl (by decide) rfl (fun _ => rfl) ?_ | refine WL.pick _ _ rfl (by decide) rfl rfl ?_)
        refine QE.end0 (carH cg (.r rg A c l wk2 er2 N) ++ [.blk g (evC e.n (.slice A2 xs.length c2) oo) 37, .row (.slice A2 xs.length c2) 3 1 xs.length (i64s xs)]) rfl (.cons_cons _ (.cons_cons _ (.cons_cons _ (.cons _ (.refl _))))) ⟨rfl, _, A2, c2, xs, LI.T hr hv1 hN (by rw [← hwk1, ← her1]; exact h1) ?_, by omega, rfl⟩
        cases hNc : N with
        | true => exact .inr (.inl rfl)
        | false => exact .inr (.inr (by rw [hNc] at hS; simpa using hS))
    · have hb : ¬ (i : Int) < v1 := of_decide_eq_false hb
      repeat (first | refine WC.exit ?_ | refine WL.nil ?_ | with_reducible refine QE.then_n ?_ | with_reducible refine QE.then_e ?_ | with_reducible refine QE.blk_hit ?_ | refine WC.cond_f rfl ?_ | refine WL.off rfl (by decide) ?_ | refine WL.pick _ _ rfl (by decide) rfl rfl ?_)
      exact QE.end0 (carH cg (.r rg A c l wk2 er2 N) ++ [.blk g (evC e.n (.slice A2 xs.length c2) oo) 37, .row (.slice A2 xs.length c2) 3 1 xs.length (i64s xs)]) rfl (.cons_cons _ (.cons_cons _ (.cons_cons _ (.cons _ (.refl _))))) ⟨rfl, _, A2, c2, xs, LI.T hr hv1 hN (by rw [← hwk1, ← her1]; exact h1) (.inl (by omega)), by omega, rfl⟩
  · repeat (first | refine WC.seq ?_ | refine WC.region ?_ | refine WL.nil ?_ | with_reducible refine QE.then_n ?_ | refine WL.bin _ _ _ rfl (by decide) rfl rfl (fun _ => rfl) ?_ | refine WL.ld3 3 rfl (by decide) rfl rfl rfl ?_)
    refine WC.cond _ rfl (fun h => ?_) (fun h => ?_)
    · have h : v1 > 32 := of_decide_eq_true h
      repeat (first | refine WC.region ?_ | refine WL.nil ?_ | refine WL.move _ rfl (by decide) rfl ?_ | refine WL.nilc _ rfl (by decide) rfl ?_ | refine WL.fd96_2 rfl (by decide) rfl ?_ | refine WL.st4 0 rfl rfl rfl rfl rfl rfl rfl rfl rfl ?_)
      refine QE.cut () trivial (.cons rfl (.cons rfl (.cons rfl .nil))) ?_
      rw [hN, decide_eq_true (by omega : 32 < v1), Bool.or_true]
      exact .refl _
    · have h : ¬ v1 > 32 := of_decide_eq_false h
      repeat (refine WC.skip ?_)
      refine QE.cut () trivial (.cons rfl (.cons rfl (.cons rfl .nil))) ?_
      rw [hN, decide_eq_false (by omega : ¬ 32 < v1), Bool.or_false]
      exact .refl _

set_option maxHeartbeats 8000000 in
set_option maxRecDepth 100000 in
theorem list_r27 (rg : Nat) (A : Option Addr) (c : Nat) (l : List Int) (wk : Nat) (er : Int) (bad : Bool) (e : Ev) (oo : Value) (cg g : Nat) (B : Option Addr) (n0 k : Nat) (hr : Cod.room 300 (.r rg A c l wk er bad)) :
    Con Try.prog 101 #[pt cg, .pointer (some ⟨g, 27, none⟩)] (carH cg (.r rg A c l wk er bad) ++ [.blk g (evC e.n oo (.slice B n0 k)) 37]) (fun _ => True)
      (fun r H' => r = .tuple #[] ∧ ∃ s' A' c' xs, T [.l 27] (.r rg A c l wk er bad) e s' (e.setl 27 xs) ∧ xs.length ≤ 255 ∧ H' = carH cg s' ++ [.blk g (evC e.n oo (.slice A' xs.length c')) 37, .row (.slice A' xs.length c') 3 1 xs.length (i64s xs)]) := by
  refine Con.intro Try.func101 rfl Try.ntmps101 rfl (fun w hR => ?_)
  have hrr := hr
  obtain ⟨hwk, hln, hby, her⟩ := hrr
  simp only [carH, pt, List.cons_append, List.nil_append]
  repeat (first | refine WC.seq ?_ | refine WC.region ?_ | refine WL.move _ rfl (by decide) rfl ?_ | refine WL.nilc _ rfl (by decide) rfl ?_ | refine WL.ln25 rfl (by decide) rfl ?_ | refine WL.ld25 3 rfl (by decide) rfl rfl rfl ?_)
  refine WL.alloc (.int .i64 0) [.int .i64 0] rfl (by decide) (fun w => by kernel_rfl) rfl (fun nb => ?_)
  repeat (first | refine WC.seq ?_ | refine WC.region ?_ | refine WL.move _ rfl (by decide) rfl ?_ | refine WL.st3 0 rfl rfl rfl rfl rfl rfl rfl rfl rfl ?_)
  refine WL.buildS 1 126 1 [(0, .pointer (some ⟨nb, 0, none⟩))] (ptrs nb [0]) rfl (by decide) rfl rfl rfl (fun w => by kernel_rfl) (fun gb => ?_)
  skip
  refine WL.call [] [] [pt cg, .slice (some ⟨gb, 0, none⟩) 1 1] _ _ [.blk g (evC e.n oo (.slice B n0 k)) 37] (small_con (.r rg A c l wk er bad) cg nb 3 gb [.int .i64 n0] [0] (by decide) (by simp) (room_le hr (by decide))) rfl (by decide) rfl Try.func80 rfl rfl rfl rfl (permG [_, _, _] _) (fun _ _ => trivial) ?_
  rintro r H1 ⟨rfl, s', cs', hs, rfl⟩
  obtain ⟨v1, rfl, rfl, hv1⟩ := small_one hs
  simp only [carH, pt, List.cons_append, List.nil_append]
  have hv01 : 0 ≤ v1 ∧ v1 < 256 := by
    rcases one_byte hr with ⟨_, x, d, x0, x1, hv, hw, he, hl⟩ | ⟨hc, hv, he, hw⟩ <;> (rw [hv1, hv]; omega)
  have hi0 : LI l (wkR l.length wk er (1 : Nat)) (erR l.length wk er (1 : Nat)) v1 0 [] (wkR l.length wk er (1 : Nat)) (erR l.length wk er (1 : Nat)) :=
    ⟨by omega, wkR_le hwk, er_cases _ _ _ _ her, fun _ => ⟨by simp, rfl, rfl⟩, fun h => .inl h, fun h => h, Nat.le_refl _⟩
  obtain ⟨wk1, hwk1⟩ : ∃ wk1, wk1 = wkR l.length wk er (1 : Nat) := ⟨_, rfl⟩
  obtain ⟨er1, her1⟩ : ∃ er1, er1 = erR l.length wk er (1 : Nat) := ⟨_, rfl⟩
  rw [← hwk1, ← her1] at hi0 ⊢
  obtain ⟨N, hN⟩ : ∃ N : Bool, N = (bad || decide (32 < v1)) := ⟨_, rfl⟩
  refine WC.cut (σ := Unit) (fun _ => [(0, .pointer (some ⟨cg, 0, none⟩)), (1, .pointer (some ⟨g, 27, none⟩)), (4, .pointer (some ⟨nb, 0, none⟩))])
    (fun _ => [.blk cg [.pointer (some ⟨rg, 0, none⟩), .slice none 0 0, .bool N] 96, .blk rg [.slice A l.length c, .int .i64 wk1, .int .i64 er1] 109, .row (.slice A l.length c) 5 1 l.length (b8 l), .blk nb [.int .i64 v1] 3, .blk g (evC e.n oo (.slice B n0 k)) 37]) (fun _ => True) ?_ ?_
  · rintro _ _
    repeat (first | refine WC.seq ?_ | refine WC.region ?_ | refine WL.nil ?_ | with_reducible refine QE.then_n ?_ | refine WC.cond_t rfl ?_ | refine WL.move _ rfl (by decide) rfl ?_ | refine WL.bin _ _ _ rfl (by decide) rfl rfl (fun _ => rfl) ?_ | refine WL.nilc _ rfl (by decide) rfl ?_ | refine WL.fd96_0 rfl (by decide) rfl ?_ | refine WL.ld68 0 rfl (by decide) rfl rfl rfl ?_)
    refine WL.st25 4 rfl rfl rfl rfl rfl rfl rfl rfl rfl ?_
    repeat (first | refine WL.nil ?_ | with_reducible refine QE.then_n ?_)
    refine WC.nilrow 3 1 ?_
    refine WC.perm _ (List.perm_append_comm (l₁ := [_, _, _, _, _]) (l₂ := [_])) ?_
    repeat (first | refine WC.seq ?_ | refine WC.region ?_ | refine WC.block ?_ | refine WL.assign _ rfl (by decide) rfl ?_)
    refine WC.loop (σ := Nat × Option Addr × Nat × List Int × Nat × Int) (fun x => [(5, .int .i64 x.1), (0, .pointer (some ⟨cg, 0, none⟩)), (1, .pointer (some ⟨g, 27, none⟩)), (4, .pointer (some ⟨nb, 0, none⟩))])
      (fun x => [.blk cg [.pointer (some ⟨rg, 0, none⟩), .slice none 0 0, .bool N] 96, .blk rg [.slice A l.length c, .int .i64 x.2.2.2.2.1, .int .i64 x.2.2.2.2.2] 109, .row (.slice A l.length c) 5 1 l.length (b8 l), .blk nb [.int .i64 v1] 3, .blk g (evC e.n oo (.slice x.2.1 x.2.2.2.1.length x.2.2.1)) 37, .row (.slice x.2.1 x.2.2.2.1.length x.2.2.1) 3 1 x.2.2.2.1.length (i64s x.2.2.2.1)])
      (fun x => LI l wk1 er1 v1 x.1 x.2.2.2.1 x.2.2.2.2.1 x.2.2.2.2.2) (fun x => v1.toNat - x.1)
      (0, none, 0, [], wk1, er1) hi0 (.cons rfl (.cons rfl (.cons rfl (.cons rfl .nil)))) (.refl _) ?_
    rintro ⟨i, A2, c2, xs, wk2, er2⟩ h1
    dsimp only at h1 ⊢
    have hie := h1.le
    have hxl := h1.xl
    repeat (first | refine WC.seq ?_ | refine WC.region ?_ | refine WL.move _ rfl (by decide) rfl ?_ | refine WL.bin _ _ _ rfl (by decide) rfl rfl (fun _ => rfl) ?_ | refine WL.ld3 3 rfl (by decide) rfl rfl rfl ?_)
    refine WL.split 29 _ rfl (fun hb => ?_) (fun hb => ?_)
    · have hb : (i : Int) < v1 := of_decide_eq_true hb
      repeat (refine WL.move _ rfl (by decide) rfl ?_)
      refine WL.call [] [] [pt cg] _ _ [.blk nb [.int .i64 v1] 3, .blk g (evC e.n oo (.slice A2 xs.length c2)) 37, .row (.slice A2 xs.length c2) 3 1 xs.length (i64s xs)] (stops_con (.r rg A c l wk2 er2 N) cg) rfl (by decide) rfl Try.func58 rfl rfl rfl rfl (.refl _) (fun _ _ => trivial) ?_
      rintro r H1 ⟨rfl, rfl⟩
      simp only [carH, stopB, pt, List.cons_append, List.nil_append]
      obtain ⟨S, hS⟩ : ∃ S : Bool, S = (N || decide (er2 ≠ 0)) := ⟨_, rfl⟩
      rw [← hS]
      cases S
      · have hNf : N = false := by cases N; rfl; simp at hS
        have he0 : er2 = 0 := by rw [hNf] at hS; simpa using hS
        subst he0
        repeat (first | refine WC.seq ?_ | refine WC.region ?_ | refine WC.block ?_ | refine WC.skip ?_ | refine WL.nil ?_ | with_reducible refine QE.then_n ?_ | refine WC.cond_t rfl ?_ | refine WL.un _ _ rfl (by decide) rfl (fun _ => rfl) ?_ | refine WL.pick _ _ rfl (by decide) rfl rfl ?_)
        refine WL.alloc (.int .i64 0) [.int .i64 0] rfl (by decide) (fun w => by kernel_rfl) rfl (fun xb => ?_)
        repeat (first | refine WC.seq ?_ | refine WC.region ?_ | refine WC.skip ?_ | refine WL.nil ?_ | with_reducible refine QE.then_n ?_ | refine WC.cond_f rfl ?_ | refine WL.move _ rfl (by decide) rfl ?_ | refine WL.bin _ _ _ rfl (by decide) rfl rfl (fun _ => rfl) ?_ | refine WL.nilc _ rfl (by decide) rfl ?_ | refine WL.fd96_0 rfl (by decide) rfl ?_ | refine WL.ld68 1 rfl (by decide) rfl rfl rfl ?_ | refine WL.st3 0 rfl rfl rfl rfl rfl rfl rfl rfl rfl ?_)
        refine WL.buildS 1 126 1 [(0, .pointer (some ⟨xb, 0, none⟩))] (ptrs xb [0]) rfl (by decide) rfl rfl rfl (fun w => by kernel_rfl) (fun gb2 => ?_)
        skip
        refine WL.call [] [] [pt cg, .slice (some ⟨gb2, 0, none⟩) 1 1] _ _ [.blk nb [.int .i64 v1] 3, .blk g (evC e.n oo (.slice A2 xs.length c2)) 37, .row (.slice A2 xs.length c2) 3 1 xs.length (i64s xs)] (small_con (.r rg A c l wk2 0 N) cg xb 3 gb2 [.int .i64 0] [0] (by decide) (by simp) ⟨h1.wk, hln, hby, .inl rfl⟩) rfl (by decide) rfl Try.func80 rfl rfl rfl rfl (permG [_, _, _] _) (fun _ _ => trivial) ?_
        rintro r H1 ⟨rfl, s', cs', hs, rfl⟩
        obtain ⟨v2, rfl, rfl, hv2⟩ := small_one hs
        simp only [carH, pt, List.cons_append, List.nil_append]
        repeat (first | refine WC.seq ?_ | refine WC.region ?_ | refine WL.move _ rfl (by decide) rfl ?_ | refine WL.bin _ _ _ rfl (by decide) rfl rfl (fun _ => rfl) ?_ | refine WL.nilc _ rfl (by decide) rfl ?_ | refine WL.fd96_0 rfl (by decide) rfl ?_ | refine WL.ld68 0 rfl (by decide) rfl rfl rfl ?_)
        refine WL.call [] [] [pt cg] _ _ [.blk xb [.int .i64 v2] 3, .blk nb [.int .i64 v1] 3, .blk g (evC e.n oo (.slice A2 xs.length c2)) 37, .row (.slice A2 xs.length c2) 3 1 xs.length (i64s xs)] (stops_con (.r rg A c l (wkR l.length wk2 0 (1 : Nat)) (erR l.length wk2 0 (1 : Nat)) N) cg) rfl (by decide) rfl Try.func58 rfl rfl rfl rfl (.refl _) (fun _ _ => trivial) ?_
        rintro r H1 ⟨rfl, rfl⟩
        simp only [carH, stopB, pt, List.cons_append, List.nil_append]
        subst hNf
        rcases h1.step hby hln hb with ⟨hs0, hst⟩ | ⟨hs0, hst⟩
        · rw [hs0] at hst ⊢
          rw [← hv2] at hst
          simp only [Bool.false_or, ne_eq, not_true, decide_false]
          repeat (first | refine WL.nil ?_ | with_reducible refine QE.then_n ?_ | refine WC.cond_t rfl ?_ | refine WL.un _ _ rfl (by decide) rfl (fun _ => rfl) ?_ | refine WL.pick _ _ rfl (by decide) rfl rfl ?_)
          refine WC.draw 9 #[false, false, false, false, false, false, false, false, false] [.blk xb [.int .i64 v2] 3, .blk g (evC e.n oo (.slice A2 xs.length c2)) 37] [6, 8] (by kernel_rfl) rfl rfl (by repeat (first | exact List.Sublist.refl _ | exact List.nil_sublist _ | refine List.Sublist.cons_cons _ ?_ | refine List.Sublist.cons _ ?_)) ?_
          refine WA.move 0 #[true, false, false, false, false, false, false, false, false] _ rfl rfl rfl (by decide) (by kernel_rfl) (by repeat (first | with_reducible refine Qp.then ?_ | with_reducible refine Qp.blk ?_ | with_reducible exact Qp.body)) ?_
          refine WA.move 1 #[true, true, false, false, false, false, false, false, false] _ rfl rfl rfl (by decide) (by kernel_rfl) (by repeat (first | with_reducible refine Qp.then ?_ | with_reducible refine Qp.blk ?_ | with_reducible exact Qp.body)) ?_
          refine WA.nilc 2 #[true, true, true, false, false, false, false, false, false] _ rfl rfl rfl (by decide) (by kernel_rfl) (by repeat (first | with_reducible refine Qp.then ?_ | with_reducible refine Qp.blk ?_ | with_reducible exact Qp.body)) ?_
          refine WA.load 3 #[true, true, true, true, false, false, false, false, false] 1 _ _ _ _ _ rfl rfl (by decide) (by repeat (first | exact List.Sublist.refl _ | exact List.nil_sublist _ | refine List.Sublist.cons_cons _ ?_ | refine List.Sublist.cons _ ?_)) (by kernel_rfl) (by repeat (first | with_reducible refine Qp.then ?_ | with_reducible refine Qp.blk ?_ | with_reducible exact Qp.body)) rfl agg25 rfl rfl ?_
          refine WA.load 4 #[true, true, true, true, true, false, false, false, false] 0 _ _ _ _ _ rfl rfl (by decide) (by repeat (first | exact List.Sublist.refl _ | exact List.nil_sublist _ | refine List.Sublist.cons_cons _ ?_ | refine List.Sublist.cons _ ?_)) (by kernel_rfl) (by repeat (first | with_reducible refine Qp.then ?_ | with_reducible refine Qp.blk ?_ | with_reducible exact Qp.body)) rfl agg3 rfl rfl ?_
          refine WA.buildS 5 #[true, true, true, true, true, true, false, false, false] 1 3 1 [(0, .int .i64 v2)] [.int .i64 v2] rfl rfl (by decide) (by kernel_rfl) rfl (by repeat (first | exact List.Sublist.refl _ | exact List.nil_sublist _ | refine List.Sublist.cons_cons _ ?_ | refine List.Sublist.cons _ ?_)) rfl rfl rfl (fun w => by kernel_rfl) (fun gb3 => ?_)
          refine WA.append 6 #[true, true, true, true, true, true, true, false, false] 7 3 1 8 xs.length 1 1 (.int .i64 0) _ _ (i64s xs) [.int .i64 v2] rfl rfl (by decide) (by kernel_rfl) rfl rfl rfl Try.underlying25 info3 rfl (by decide) rfl (fun w hI => row_reads hI (i := 0) rfl) (by simp [Value.oneCell']) (by omega) (by omega) (fun A3 c3 => ?_)
          refine WA.nilc 7 #[true, true, true, true, true, true, true, true, false] _ rfl rfl rfl (by decide) (by kernel_rfl) (by repeat (first | with_reducible refine Qp.then ?_ | with_reducible refine Qp.blk ?_ | with_reducible exact Qp.body)) ?_
          refine WA.store 8 #[true, true, true, true, true, true, true, true, true] 6 g 27 _ _ _ _ _ rfl rfl (by kernel_rfl) rfl rfl rfl rfl rfl size25 rfl rfl rfl ?_
          refine WA.done (by kernel_rfl) ?_
          repeat (first | refine WC.region ?_ | refine WL.nil ?_ | refine WL.move _ rfl (by decide) rfl ?_ | refine WL.assign _ rfl (by decide) rfl ?_ | refine WL.bin _ _ _ rfl (by decide) rfl rfl (fun _ => rfl) ?_)
          refine QE.round (i + 1, A3, c3, xs ++ [v2], wkR l.length wk2 0 (1 : Nat), 0) hst (by dsimp only; omega) (.eq rfl (by congr 1; rw [wr_i64 (by omega) (by omega)]; simp) (.cons rfl (.cons rfl (.cons rfl .nil)))) ?_
          dsimp only
          rw [show i64s (xs ++ [v2]) = i64s xs ++ [.int .i64 v2] by simp [i64s], List.length_append]
          exact .cons _ (.cons_cons _ (.cons_cons _ (.cons_cons _ (.cons _ (.cons_cons _ (.cons_cons _ (.refl _)))))))
        · rw [hs0] at hst ⊢
          simp only [Bool.false_or, ne_eq, show ¬ ((7 : Int) = 0) by decide, not_false_eq_true, decide_true]
          repeat (first | refine WC.region ?_ | refine WC.skip ?_ | refine WL.nil ?_ | with_reducible refine QE.then_n ?_ | refine WC.cond_f rfl ?_ | refine WL.move _ rfl (by decide) rfl ?_ | refine WL.assign _ rfl (by decide) rfl ?_ | refine WL.bin _ _ _ rfl (by decide) rfl rfl (fun _ => rfl) ?_ | refine WL.un _ _ rfl (by decide) rfl (fun _ => rfl) ?_ | refine WL.pick _ _ rfl (by decide) rfl rfl ?_)
          exact QE.round (i + 1, A2, c2, xs, wkR l.length wk2 0 (1 : Nat), 7) hst (by dsimp only; omega) (.eq rfl (by congr 1; rw [wr_i64 (by omega) (by omega)]; simp) (.cons rfl (.cons rfl (.cons rfl .nil)))) (.cons_cons _ (.cons_cons _ (.cons_cons _ (.cons _ (.refl _)))))
      · repeat (first | refine WC.exit ?_ | refine WL.nil ?_ | with_reducible refine QE.then_n ?_ | with_reducible refine QE.then_e ?_ | with_reducible refine QE.blk_hit ?_ | refine WC.cond_f rfl ?_ | refine WL.un _ _ rfl (by decide) rfl (fun _ => rfl) ?_ | refine WL.pick _ _ rfl (by decide) rfl rfl ?_)
        refine QE.end0 (carH cg (.r rg A c l wk2 er2 N) ++ [.blk g (evC e.n oo (.slice A2 xs.length c2)) 37, .row (.slice A2 xs.length c2) 3 1 xs.length (i64s xs)]) rfl (.cons_cons _ (.cons_cons _ (.cons_cons _ (.cons _ (.refl _))))) ⟨rfl, _, A2, c2, xs, LI.T hr hv1 hN (by rw [← hwk1, ← her1]; exact h1) ?_, by omega, rfl⟩
        cases hNc : N with
        | true => exact .inr (.inl rfl)
        | false => exact .inr (.inr (by rw [hNc] at hS; simpa using hS))
    · have hb : ¬ (i : Int) < v1 := of_decide_eq_false hb
      repeat (first | refine WC.exit ?_ | refine WL.nil ?_ | with_reducible refine QE.then_n ?_ | with_reducible refine QE.then_e ?_ | with_reducible refine QE.blk_hit ?_ | refine WC.cond_f rfl ?_ | refine WL.off rfl (by decide) ?_ | refine WL.pick _ _ rfl (by decide) rfl rfl ?_)
      exact QE.end0 (carH cg (.r rg A c l wk2 er2 N) ++ [.blk g (evC e.n oo (.slice A2 xs.length c2)) 37, .row (.slice A2 xs.length c2) 3 1 xs.length (i64s xs)]) rfl (.cons_cons _ (.cons_cons _ (.cons_cons _ (.cons _ (.refl _))))) ⟨rfl, _, A2, c2, xs, LI.T hr hv1 hN (by rw [← hwk1, ← her1]; exact h1) (.inl (by omega)), by omega, rfl⟩
  · repeat (first | refine WC.seq ?_ | refine WC.region ?_ | refine WL.nil ?_ | with_reducible refine QE.then_n ?_ | refine WL.bin _ _ _ rfl (by decide) rfl rfl (fun _ => rfl) ?_ | refine WL.ld3 3 rfl (by decide) rfl rfl rfl ?_)
    refine WC.cond _ rfl (fun h => ?_) (fun h => ?_)
    · have h : v1 > 32 := of_decide_eq_true h
      repeat (first | refine WC.region ?_ | refine WL.nil ?_ | refine WL.move _ rfl (by decide) rfl ?_ | refine WL.nilc _ rfl (by decide) rfl ?_ | refine WL.fd96_2 rfl (by decide) rfl ?_ | refine WL.st4 0 rfl rfl rfl rfl rfl rfl rfl rfl rfl ?_)
      refine QE.cut () trivial (.cons rfl (.cons rfl (.cons rfl .nil))) ?_
      rw [hN, decide_eq_true (by omega : 32 < v1), Bool.or_true]
      exact .refl _
    · have h : ¬ v1 > 32 := of_decide_eq_false h
      repeat (refine WC.skip ?_)
      refine QE.cut () trivial (.cons rfl (.cons rfl (.cons rfl .nil))) ?_
      rw [hN, decide_eq_false (by omega : ¬ 32 < v1), Bool.or_false]
      exact .refl _
end Go.Proofs.Ytalafklnnohlgaa.Cod
