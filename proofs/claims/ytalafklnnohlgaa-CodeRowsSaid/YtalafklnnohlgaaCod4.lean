/- code's carrier: a flag, a list. Conditions: the bytes so far leave room; a list that is read lies apart from what is written. -/
import Derived.Test.YtalafklnnohlgaaCod3
namespace Go.Proofs.Ytalafklnnohlgaa.Cod
open Go.RowKit X Go.Proofs.YtalafklnnohlgaaW.PrintLast
open Oct hiding agg39 size39
set_option linter.unusedVariables false
set_option linter.unusedSimpArgs false

theorem permD {n r g : Ck} (X : List Ck) : ((X ++ [n, r]) ++ [g]).Perm (r :: n :: g :: X) := by
  rw [List.append_assoc]
  exact (X.perm_append_comm (l₂ := [n, r, g])).trans (.swap _ _ _)
theorem small_one {s s' : Cs} {v : Int} {cs' : List Value} (h : SmallP [0] s [.int .i64 v] s' cs') : ∃ v1, cs' = [.int .i64 v1] ∧ OneV 1 .i64 s v s' v1 := by
  cases h with
  | cons hv ho hs => cases hs; simp at hv; subst hv; exact ⟨_, rfl, ho⟩
theorem nofit_0 : nofit 1 (IntKind.u64.wrap 0) = false := by decide
theorem nofit_1 : nofit 1 (IntKind.u64.wrap 1) = false := by decide
theorem beU_one {x : Int} (h : 0 ≤ x ∧ x < 256) : IntKind.i64.wrap (beU [x]) = x := by
  have : beU [x] = x := by
    show stepU 0 x = x
    rw [stepU_eq (by decide) h.1 (by omega)]; omega
  rw [this, wr_i64 (by omega) (by omega)]
theorem drop_byte {l : List Int} {wk : Nat} (hb : Byt l) (h : wk + 1 ≤ l.length) : ∃ x, (l.drop wk).take 1 = [x] ∧ l.drop wk = x :: l.drop (wk + 1) ∧ 0 ≤ x ∧ x < 256 := by
  have hx : l[wk]? = some l[wk] := List.getElem?_eq_getElem (by omega)
  refine ⟨l[wk], ?_, List.drop_eq_getElem_cons (by omega), hb _ (List.mem_of_getElem? hx)⟩
  rw [List.drop_eq_getElem_cons (by omega)]; rfl
theorem one_byte {l : List Int} {wk : Nat} {er : Int} (hr : wk ≤ l.length ∧ l.length ≤ 140737488355328 ∧ Byt l ∧ (er = 0 ∨ er = 7)) :
    (er = 0 ∧ ∃ x, l.drop wk = x :: l.drop (wk + 1) ∧ 0 ≤ x ∧ x < 256 ∧ IntKind.i64.wrap (beU (tkR l wk er (1 : Nat))) = x ∧ wkR l.length wk er (1 : Nat) = wk + 1 ∧ erR l.length wk er (1 : Nat) = 0 ∧ wk + 1 ≤ l.length) ∨
    ((er = 0 ∧ l.drop wk = [] ∨ er = 7) ∧ IntKind.i64.wrap (beU (tkR l wk er (1 : Nat))) = 0 ∧ erR l.length wk er (1 : Nat) = 7 ∧ wkR l.length wk er (1 : Nat) = wk) := by
  obtain ⟨h1, h2, h3, h4⟩ := hr
  rcases h4 with rfl | rfl
  · by_cases hl : wk + 1 ≤ l.length
    · obtain ⟨a, b, c⟩ := tkR_good hl
      obtain ⟨x, d1, d2, d3, d4⟩ := drop_byte h3 hl
      exact .inl ⟨rfl, x, d2, d3, d4, by rw [a, d1]; exact beU_one ⟨d3, d4⟩, b, c, hl⟩
    · obtain ⟨a, b, c⟩ := tkR_short h1 hl
      exact .inr ⟨.inl ⟨rfl, List.drop_eq_nil_of_le (by omega)⟩, by rw [a]; decide, c, b⟩
  · obtain ⟨a, b, c⟩ := tkR_er (l := l) (wk := wk) (W := 1) (er := 7) (by decide)
    exact .inr ⟨.inr rfl, by rw [a]; decide, c, b⟩
theorem flag_T {rg : Nat} {A : Option Addr} {c : Nat} {l : List Int} {wk : Nat} {er : Int} {bad : Bool} {e : Ev} (hr : Cod.room 8 (.r rg A c l wk er bad)) :
    T [.f 5] (.r rg A c l wk er bad) e (.r rg A c l (wkR l.length wk er (1 : Nat)) (erR l.length wk er (1 : Nat)) (bad || decide (IntKind.i64.wrap (beU (tkR l wk er (1 : Nat))) > 1))) ⟨upd e.n 5 (IntKind.i64.wrap (beU (tkR l wk er (1 : Nat)))), e.nums, e.mem⟩ := by
  have hrr := hr
  obtain ⟨h1, h2, h3, h4⟩ := hrr
  rcases one_byte hr with ⟨rfl, x, d, x0, x1, hv, hw, he, hl⟩ | ⟨hc, hv, he, hw⟩
  · refine ⟨_, _, _, rfl, ⟨by rw [hw]; exact hl, h2, h3, .inl he⟩, ?_⟩
    rw [hv, hw, he]
    cases bad with
    | true => rfl
    | false =>
      simp only [rdF, List.foldl_cons, List.foldl_nil, resOf, Bool.false_or, Bool.false_eq_true, if_false, ne_eq, not_true, d, rdD]
      by_cases hx : 1 < x
      · simp [hx]
      · simp [hx]
  · refine ⟨_, _, _, rfl, ⟨by rw [hw]; exact h1, h2, h3, .inr he⟩, ?_⟩
    rw [hv, hw, he]
    cases bad with
    | true => rfl
    | false =>
      rcases hc with ⟨rfl, hd⟩ | rfl
      · simp [rdF, resOf, hd, rdD]
      · simp [rdF, resOf, rdD]
theorem be1 {v : Int} (h : v = 0 ∨ v = 1) : beB 1 (IntKind.u64.wrap v) = [v] := by rcases h with rfl | rfl <;> decide
set_option maxHeartbeats 4000000 in
set_option maxRecDepth 100000 in
theorem flag_con (s : Cs) (e : Ev) (st tt : Value) (cg g : Nat) (hr : room 8 s) :
    Con Try.prog 103 #[pt cg, .pointer (some ⟨g, 5, none⟩)] (carH cg s ++ [.blk g (evC e.n st tt) 37]) (fun _ => True) (EvP [.f 5] cg g st tt s e) := by
  refine Con.intro Try.func103 rfl Try.ntmps103 rfl (fun w _ => ?_)
  unfold pt
  refine WC.perm (.blk g (evC e.n st tt) 37 :: carH cg s) ((carH cg s).perm_append_comm (l₂ := [_])).symm ?_
  repeat (first | refine WC.seq ?_ | refine WC.region ?_)
  refine WL.alloc (.int .i64 0) [.int .i64 0] rfl (by decide) (fun w => by kernel_rfl) rfl (fun nb => ?_)
  repeat (first | refine WL.nil ?_ | with_reducible refine QE.then_n ?_ | refine WL.st3 0 rfl rfl rfl rfl rfl rfl rfl rfl rfl ?_)
  refine WC.cut (σ := Unit) (fun _ => [(0, .pointer (some ⟨cg, 0, none⟩)), (1, .pointer (some ⟨g, 5, none⟩)), (4, .pointer (some ⟨nb, 0, none⟩))]) (fun _ => .blk nb [.int .i64 (if e.n 5 = 1 then 1 else 0)] 3 :: .blk g (evC e.n st tt) 37 :: carH cg s) (fun _ => True) ?_ ?_
  · rintro _ _
    obtain ⟨v, hv⟩ : ∃ v : Int, v = if e.n 5 = 1 then 1 else 0 := ⟨_, rfl⟩
    have hv01 : v = 0 ∨ v = 1 := by rw [hv]; split <;> simp
    rw [← hv]
    repeat (first | refine WC.seq ?_ | refine WC.region ?_ | refine WL.move _ rfl (by decide) rfl ?_)
    refine WL.buildS 1 126 1 [(0, .pointer (some ⟨nb, 0, none⟩))] (ptrs nb [0]) rfl (by decide) rfl rfl rfl (fun w => by kernel_rfl) (fun gb => ?_)
    skip
    refine WL.call [] [] [pt cg, .slice (some ⟨gb, 0, none⟩) 1 1] _ _ [.blk g (evC e.n st tt) 37] (small_con s cg nb 3 gb [.int .i64 v] [0] (by decide) (by simp) hr) rfl (by decide) rfl Try.func80 rfl rfl rfl rfl (permD _) (fun _ _ => trivial) ?_
    rintro r H1 ⟨rfl, s', cs', hs, rfl⟩
    obtain ⟨v1, rfl, ho⟩ := small_one hs
    cases s with
    | w A c out bad =>
      obtain ⟨rfl, A', c', rfl⟩ := ho
      have hnf : nofit 1 (IntKind.u64.wrap v1) = false := by rcases hv01 with rfl | rfl; exact nofit_0; exact nofit_1
      rw [hnf, Bool.or_false]
      simp only [carH, List.cons_append, List.nil_append]
      have hc : (v1 == 1) = (e.n 5 == 1) := by rw [hv]; split <;> simp_all
      have ht : T [.f 5] (.w A c out bad) e (.w A' c' (out ++ beB 1 (IntKind.u64.wrap v1)) bad) ⟨e.n, e.nums, e.mem⟩ := by
        refine ⟨rfl, A', c', _, _, rfl, ?_, by simp [okF, okD], fun _ => ?_⟩
        · rw [List.length_append, beB_len]; simp [szF, szD]
        · rw [be1 hv01, hv]; simp [wrF, wrD]
      have hv1 : decide (v1 > 1) = false := decide_eq_false (by omega)
      cases bad
      · repeat (first | refine WC.seq ?_ | refine WC.region ?_ | refine WL.nil ?_ | refine WL.move _ rfl (by decide) rfl ?_ | refine WL.bin _ _ _ rfl (by decide) rfl rfl (fun _ => rfl) ?_ | refine WL.nilc _ rfl (by decide) rfl ?_ | refine WL.pick _ _ rfl (by decide) rfl rfl ?_ | refine WL.fd96_2 rfl (by decide) rfl ?_ | refine WL.ld3 2 rfl (by decide) rfl rfl rfl ?_ | refine WL.ld4 0 rfl (by decide) rfl rfl rfl ?_ | refine WL.st4 0 rfl rfl rfl rfl rfl rfl rfl rfl rfl ?_ | refine WL.st4 3 rfl rfl rfl rfl rfl rfl rfl rfl rfl ?_)
        rw [hc, hv1]
        exact QE.end0 (carH cg (.w A' c' (out ++ beB 1 (IntKind.u64.wrap v1)) false) ++ [.blk g (evC e.n st tt) 37]) rfl (.cons_cons _ (.cons_cons _ (.cons _ (.refl _)))) ⟨rfl, _, e.n, ht, rfl⟩
      · repeat (first | refine WC.seq ?_ | refine WC.region ?_ | refine WL.nil ?_ | refine WL.move _ rfl (by decide) rfl ?_ | refine WL.bin _ _ _ rfl (by decide) rfl rfl (fun _ => rfl) ?_ | refine WL.nilc _ rfl (by decide) rfl ?_ | refine WL.off rfl (by decide) ?_ | refine WL.pick _ _ rfl (by decide) rfl rfl ?_ | refine WL.fd96_2 rfl (by decide) rfl ?_ | refine WL.ld3 2 rfl (by decide) rfl rfl rfl ?_ | refine WL.ld4 0 rfl (by decide) rfl rfl rfl ?_ | refine WL.st4 0 rfl rfl rfl rfl rfl rfl rfl rfl rfl ?_ | refine WL.st4 3 rfl rfl rfl rfl rfl rfl rfl rfl rfl ?_)
        rw [hc]
        exact QE.end0 (carH cg (.w A' c' (out ++ beB 1 (IntKind.u64.wrap v1)) true) ++ [.blk g (evC e.n st tt) 37]) rfl (.cons_cons _ (.cons_cons _ (.cons _ (.refl _)))) ⟨rfl, _, e.n, ht, rfl⟩
    | r rg A c l wk er bad =>
      obtain ⟨rfl, hv1⟩ := ho
      have ht := flag_T (e := e) hr
      rw [← hv1] at ht
      simp only [carH, List.cons_append, List.nil_append]
      cases bad
      · repeat (first | refine WC.seq ?_ | refine WC.region ?_ | refine WL.move _ rfl (by decide) rfl ?_ | refine WL.bin _ _ _ rfl (by decide) rfl rfl (fun _ => rfl) ?_ | refine WL.nilc _ rfl (by decide) rfl ?_ | refine WL.pick _ _ rfl (by decide) rfl rfl ?_ | refine WL.fd96_2 rfl (by decide) rfl ?_ | refine WL.ld3 3 rfl (by decide) rfl rfl rfl ?_ | refine WL.ld4 0 rfl (by decide) rfl rfl rfl ?_ | refine WL.st4 0 rfl rfl rfl rfl rfl rfl rfl rfl rfl ?_)
        refine WL.st4 4 rfl rfl rfl rfl rfl rfl rfl rfl rfl ?_
        repeat (refine WL.nil ?_)
        refine QE.end0 (carH cg (.r rg A c l (wkR l.length wk er (1 : Nat)) (erR l.length wk er (1 : Nat)) (false || decide (v1 > 1))) ++ [.blk g (evC (upd e.n 5 v1) st tt) 37]) rfl (.cons_cons _ (.cons_cons _ (.cons_cons _ (.cons _ (.refl _))))) ⟨rfl, _, _, ht, rfl⟩
      · repeat (first | refine WC.seq ?_ | refine WC.region ?_ | refine WL.move _ rfl (by decide) rfl ?_ | refine WL.bin _ _ _ rfl (by decide) rfl rfl (fun _ => rfl) ?_ | refine WL.nilc _ rfl (by decide) rfl ?_ | refine WL.off rfl (by decide) ?_ | refine WL.pick _ _ rfl (by decide) rfl rfl ?_ | refine WL.fd96_2 rfl (by decide) rfl ?_ | refine WL.ld3 3 rfl (by decide) rfl rfl rfl ?_ | refine WL.ld4 0 rfl (by decide) rfl rfl rfl ?_ | refine WL.st4 0 rfl rfl rfl rfl rfl rfl rfl rfl rfl ?_)
        refine WL.st4 4 rfl rfl rfl rfl rfl rfl rfl rfl rfl ?_
        repeat (refine WL.nil ?_)
        refine QE.end0 (carH cg (.r rg A c l (wkR l.length wk er (1 : Nat)) (erR l.length wk er (1 : Nat)) (true || decide (v1 > 1))) ++ [.blk g (evC (upd e.n 5 v1) st tt) 37]) rfl (.cons_cons _ (.cons_cons _ (.cons_cons _ (.cons _ (.refl _))))) ⟨rfl, _, _, ht, rfl⟩
  · repeat (first | refine WC.seq ?_ | refine WC.region ?_ | refine WL.nil ?_ | with_reducible refine QE.then_n ?_ | refine WL.move _ rfl (by decide) rfl ?_ | refine WL.nilc _ rfl (by decide) rfl ?_ | refine WL.ld4 1 rfl (by decide) rfl rfl rfl ?_)
    refine WC.cond _ rfl (fun h => ?_) (fun h => ?_)
    · have h : e.n 5 = 1 := by simpa using h
      repeat (first | refine WC.region ?_ | refine WL.nil ?_ | refine WL.st3 0 rfl rfl rfl rfl rfl rfl rfl rfl rfl ?_)
      exact QE.cut () trivial (.cons rfl (.cons rfl (.cons rfl .nil))) (by rw [if_pos h]; exact .refl _)
    · have h : ¬ e.n 5 = 1 := by simpa using h
      repeat (refine WC.skip ?_)
      exact QE.cut () trivial (.cons rfl (.cons rfl (.cons rfl .nil))) (by rw [if_neg h]; exact .refl _)
set_option maxRecDepth 100000 in
theorem masks_con (s : Cs) (e : Ev) (st tt : Value) (cg g : Nat) (hr : Cod.room 16 s) :
    Con Try.prog 95 #[pt cg, .pointer (some ⟨g, 1, none⟩)] (carH cg s ++ [.blk g (evC e.n st tt) 37]) (fun _ => True) (EvP [.n 3 1 .i64, .f 5] cg g st tt s e) := by
  refine Con.intro Try.func95 rfl Try.ntmps95 rfl (fun w _ => ?_)
  unfold pt
  repeat (first | refine WC.seq ?_ | refine WC.region ?_ | refine WL.move _ rfl (by decide) rfl ?_ | refine WL.nilc _ rfl (by decide) rfl ?_ | refine WL.fd33_2 rfl (by decide) rfl ?_)
  refine WL.buildS 1 126 1 [(0, .pointer (some ⟨g, 3, none⟩))] (ptrs g [3]) rfl (by decide) rfl rfl rfl (fun w => by kernel_rfl) (fun gb => ?_)
  skip
  refine WL.call [] [] [pt cg, .slice (some ⟨gb, 0, none⟩) 1 1] _ _ [] (smallE s e st tt cg g gb [3] (by decide) (okj_1 (fun _ _ _ => ⟨rfl, fun _ => rfl⟩)) (room_le hr (by decide))) rfl (by decide) rfl Try.func80 rfl rfl rfl rfl (permC _) (fun _ _ => trivial) ?_
  rintro r H1 ⟨rfl, s1, n1, t1, rfl⟩
  rw [List.append_nil]
  have hr1 : Cod.room 8 s1 := t1.room hr
  repeat (first | refine WC.region ?_ | refine WL.move _ rfl (by decide) rfl ?_ | refine WL.nilc _ rfl (by decide) rfl ?_ | refine WL.fd33_4 rfl (by decide) rfl ?_)
  refine WL.call [] [] [pt cg, .pointer (some ⟨g, 5, none⟩)] _ _ [] (flag_con s1 ⟨n1, e.nums, e.mem⟩ st tt cg g hr1) rfl (by decide) rfl Try.func103 rfl rfl rfl rfl (by rw [List.append_nil]) (fun _ _ => trivial) ?_
  rintro r H1 ⟨rfl, s2, n2, t2, rfl⟩
  rw [List.append_nil]
  repeat (refine WL.nil ?_)
  exact QE.end0 _ rfl (.refl _) ⟨rfl, s2, n2, t1.comp t2, rfl⟩
end Go.Proofs.Ytalafklnnohlgaa.Cod
