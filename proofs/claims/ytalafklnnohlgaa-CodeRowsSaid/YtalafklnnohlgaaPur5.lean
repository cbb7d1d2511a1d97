/- What the taker comes to, letter by letter, is what is read. Condition: the bytes are such. -/
import Derived.Test.YtalafklnnohlgaaCod21
import Derived.Test.YtalafklnnohlgaaCod22
import Derived.Test.YtalafklnnohlgaaCod23
import Derived.Test.YtalafklnnohlgaaCod24
namespace Go.Proofs.Ytalafklnnohlgaa.Cod
open Go.RowKit X
open Oct hiding agg39 size39
set_option linter.unusedVariables false
set_option linter.unusedSimpArgs false

def resT (er : Int) (r : List Int) (e : Ev) : Res := if er = 0 then .good r e else if er = 7 then .short else .code
/-- A letter's fields. -/
def ltFs (c : Int) : List Fd := if c = 109 then [.n 13 4 .u32, .n 14 4 .u32] else if c = 77 then [.n 24 4 .u32, .n 25 4 .u32] else if c = 110 then [.l 6] else if c = 78 then [.l 27] else [ltF c]
/-- The letters. -/
def ltO (c : Int) : Prop := c ∈ lets ∨ c = 109 ∨ c = 77 ∨ c = 110 ∨ c = 78
theorem lets_ne {c : Int} (h : c ∈ lets) : c ≠ 109 ∧ c ≠ 77 ∧ c ≠ 110 ∧ c ≠ 78 ∧ 0 ≤ c ∧ c < 256 := by
  simp only [lets, List.mem_cons, List.not_mem_nil, or_false] at h
  omega
theorem ltO_rg {c : Int} (h : ltO c) : 0 ≤ c ∧ c < 256 := by
  rcases h with h | h | h | h | h
  · exact (lets_ne h).2.2.2.2
  all_goals omega
theorem ltF_kind (c : Int) : (∃ j w, ltF c = .n j w .i64 ∧ w ≤ 8) ∨ (ltF c = .n 26 4 .u32) ∨ (c = 102 ∧ ltF c = .f 5) := by
  by_cases h100 : c = 100
  · subst h100; exact .inl ⟨_, _, rfl, by decide⟩
  by_cases h119 : c = 119
  · subst h119; exact .inl ⟨_, _, rfl, by decide⟩
  by_cases h99 : c = 99
  · subst h99; exact .inl ⟨_, _, rfl, by decide⟩
  by_cases h113 : c = 113
  · subst h113; exact .inl ⟨_, _, rfl, by decide⟩
  by_cases h118 : c = 118
  · subst h118; exact .inl ⟨_, _, rfl, by decide⟩
  by_cases h112 : c = 112
  · subst h112; exact .inl ⟨_, _, rfl, by decide⟩
  by_cases h111 : c = 111
  · subst h111; exact .inl ⟨_, _, rfl, by decide⟩
  by_cases h102 : c = 102
  · subst h102; exact .inr (.inr ⟨rfl, rfl⟩)
  by_cases h97 : c = 97
  · subst h97; exact .inl ⟨_, _, rfl, by decide⟩
  by_cases h101 : c = 101
  · subst h101; exact .inl ⟨_, _, rfl, by decide⟩
  by_cases h116 : c = 116
  · subst h116; exact .inl ⟨_, _, rfl, by decide⟩
  by_cases h68 : c = 68
  · subst h68; exact .inl ⟨_, _, rfl, by decide⟩
  by_cases h87 : c = 87
  · subst h87; exact .inl ⟨_, _, rfl, by decide⟩
  by_cases h67 : c = 67
  · subst h67; exact .inl ⟨_, _, rfl, by decide⟩
  by_cases h80 : c = 80
  · subst h80; exact .inl ⟨_, _, rfl, by decide⟩
  by_cases h86 : c = 86
  · subst h86; exact .inl ⟨_, _, rfl, by decide⟩
  by_cases h71 : c = 71
  · subst h71; exact .inl ⟨_, _, rfl, by decide⟩
  by_cases h83 : c = 83
  · subst h83; exact .inr (.inl rfl)
  by_cases h73 : c = 73
  · subst h73; exact .inl ⟨_, _, rfl, by decide⟩
  refine .inl ⟨19, 1, ?_, by decide⟩
  unfold ltF
  rw [if_neg h100, if_neg h119, if_neg h99, if_neg h113, if_neg h118, if_neg h112, if_neg h111, if_neg h102, if_neg h97, if_neg h101, if_neg h116, if_neg h68, if_neg h87, if_neg h67, if_neg h80, if_neg h86, if_neg h71, if_neg h83, if_neg h73]
theorem wd_le {c : Int} : wdF (ltF c) ≤ 8 := by
  rcases ltF_kind c with ⟨j, w, h, hw⟩ | h | ⟨_, h⟩
  · rw [h]; exact hw
  · rw [h]; decide
  · rw [h]; decide
/-- What a letter's taking comes to. -/
def stepT (l : List Int) (c : Int) (wk : Nat) (er : Int) (e : Ev) : Nat × Int × Ev :=
  if c = 109 then ((nmP l (nmP l wk er 4).2.1 (nmP l wk er 4).2.2 4).2.1, (nmP l (nmP l wk er 4).2.1 (nmP l wk er 4).2.2 4).2.2, ⟨upd (upd e.n 13 (IntKind.u32.wrap (nmP l wk er 4).1)) 14 (IntKind.u32.wrap (nmP l (nmP l wk er 4).2.1 (nmP l wk er 4).2.2 4).1), e.nums, e.mem⟩) else
  if c = 77 then ((nmP l (nmP l wk er 4).2.1 (nmP l wk er 4).2.2 4).2.1, (nmP l (nmP l wk er 4).2.1 (nmP l wk er 4).2.2 4).2.2, ⟨upd (upd e.n 24 (IntKind.u32.wrap (nmP l wk er 4).1)) 25 (IntKind.u32.wrap (nmP l (nmP l wk er 4).2.1 (nmP l wk er 4).2.2 4).1), e.nums, e.mem⟩) else
  if c = 110 then ((lsP l wk er).1, (lsP l wk er).2.1, e.setl 6 (lsP l wk er).2.2) else
  if c = 78 then ((lsP l wk er).1, (lsP l wk er).2.1, e.setl 27 (lsP l wk er).2.2) else
  ((nmP l wk er (wdF (ltF c))).2.1, (if c = 102 ∧ 1 < (nmP l wk er (wdF (ltF c))).1 then 361 else (nmP l wk er (wdF (ltF c))).2.2), setF e (ltF c) (IntKind.i64.wrap (nmP l wk er (wdF (ltF c))).1))
def goT (l : List Int) : List Int → Nat → Int → Ev → Nat × Int × Ev
  | [], wk, er, e => (wk, er, e)
  | c :: cs, wk, er, e => if er = 0 then goT l cs (stepT l c wk er e).1 (stepT l c wk er e).2.1 (stepT l c wk er e).2.2 else (wk, er, e)
theorem nm_le {l : List Int} {wk : Nat} {er : Int} {w : Nat} (hk : wk ≤ l.length) : (nmP l wk er w).2.1 ≤ l.length := by
  unfold nmP
  split
  · split <;> simp_all
  · exact hk
theorem nm_rd {l : List Int} {wk : Nat} {er : Int} {w : Nat} (hk : wk ≤ l.length) (e : Ev) (j : Nat) (k : IntKind) :
    resT (nmP l wk er w).2.2 (l.drop (nmP l wk er w).2.1) ⟨upd e.n j (k.wrap (nmP l wk er w).1), e.nums, e.mem⟩ = rdD (resT er (l.drop wk) e) (.n j w k) := by
  unfold nmP
  by_cases he : er = 0
  · subst he
    rw [if_pos rfl]
    by_cases hw : wk + w ≤ l.length
    · rw [if_pos hw]
      simp only [resT, if_pos, rdD]
      rw [if_pos (by simp; omega), List.drop_drop]
    · rw [if_neg hw]
      simp only [resT, if_pos, rdD]
      rw [if_neg (by decide), if_neg (by simp; omega)]
  · rw [if_neg he]
    simp only [resT, if_neg he]
    split <;> rfl
theorem ls_stop {l : List Int} {er : Int} (he : er ≠ 0) : ∀ (k wk : Nat) (xs : List Int), lsGo l k wk er xs = (wk, er, xs)
  | 0, _, _ => rfl
  | k + 1, _, _ => by simp only [lsGo, if_neg he]
theorem nm_one {l : List Int} {wk : Nat} (hb : Byt l) (h : wk < l.length) : ∃ x, l.drop wk = x :: l.drop (wk + 1) ∧ nmP l wk 0 1 = (x, wk + 1, 0) ∧ 0 ≤ x ∧ x < 256 := by
  refine ⟨l[wk], List.drop_eq_getElem_cons h, ?_, hb _ (List.getElem_mem h)⟩
  have hx := hb _ (List.getElem_mem h)
  unfold nmP
  rw [if_pos rfl, if_pos (by omega), List.drop_eq_getElem_cons h]
  simp only [List.take_succ_cons, List.take_zero, Prod.mk.injEq, and_true]
  show stepU 0 l[wk] = l[wk]
  rw [stepU_eq (by omega) hx.1 (by omega)]; omega
theorem nm_none {l : List Int} {wk : Nat} (h : ¬ wk < l.length) : nmP l wk 0 1 = (0, wk, 7) := by
  unfold nmP
  rw [if_pos rfl, if_neg (by omega)]
theorem ls_go {l : List Int} (hb : Byt l) : ∀ (k wk : Nat) (xs : List Int), wk ≤ l.length → (wk + k ≤ l.length → lsGo l k wk 0 xs = (wk + k, 0, xs ++ (l.drop wk).take k)) ∧ (¬ wk + k ≤ l.length → ∃ wk' ys, lsGo l k wk 0 xs = (wk', 7, ys) ∧ wk' ≤ l.length)
  | 0, wk, xs, hk => ⟨fun _ => by simp [lsGo], fun h => absurd hk h⟩
  | k + 1, wk, xs, hk => by
    rcases Nat.lt_or_ge wk l.length with hlt | hge
    · obtain ⟨x, h1, h2, h3⟩ := nm_one hb hlt
      have ih := ls_go hb k (wk + 1) (xs ++ [x]) hlt
      simp only [lsGo, if_pos, h2]
      refine ⟨fun h => ?_, fun h => ?_⟩
      · rw [ih.1 (by omega), h1]
        simp only [List.take_succ_cons, List.append_assoc, List.cons_append, List.nil_append, Prod.mk.injEq, and_true]
        omega
      · exact ih.2 (by omega)
    · refine ⟨fun h => by omega, fun _ => ?_⟩
      simp only [lsGo, if_pos, nm_none (Nat.not_lt.2 hge)]
      exact ⟨wk, _, ls_stop (by decide) _ _ _, hk⟩
theorem ls_rd {l : List Int} {wk : Nat} {er : Int} (hb : Byt l) (hk : wk ≤ l.length) (e : Ev) (j : Nat) :
    resT (lsP l wk er).2.1 (l.drop (lsP l wk er).1) (e.setl j (lsP l wk er).2.2) = rdD (resT er (l.drop wk) e) (.l j) ∧ (lsP l wk er).1 ≤ l.length := by
  by_cases he : er = 0
  · subst he
    rcases Nat.lt_or_ge wk l.length with hlt | hge
    · obtain ⟨x, h1, h2, h3, h4⟩ := nm_one hb hlt
      unfold lsP
      rw [h2]
      dsimp only
      have hr : rdD (resT 0 (l.drop wk) e) (.l j) = if 32 < x then .code else if (l.drop (wk + 1)).length < x.toNat then .short else .good ((l.drop (wk + 1)).drop x.toNat) (e.setl j ((l.drop (wk + 1)).take x.toNat)) := by
        rw [h1]; rfl
      rw [hr]
      by_cases hx : 32 < x
      · rw [if_pos hx, if_pos hx, ls_stop (by decide)]
        exact ⟨rfl, hlt⟩
      · rw [if_neg hx, if_neg hx]
        have hg := ls_go hb x.toNat (wk + 1) [] hlt
        by_cases hl : wk + 1 + x.toNat ≤ l.length
        · rw [if_neg (by simp; omega), hg.1 hl]
          refine ⟨?_, hl⟩
          simp only [resT, if_pos, List.nil_append, List.drop_drop]
        · obtain ⟨wk', ys, h5, h6⟩ := hg.2 hl
          rw [if_pos (by simp; omega), h5]
          exact ⟨rfl, h6⟩
    · unfold lsP
      rw [nm_none (Nat.not_lt.2 hge), List.drop_eq_nil_of_le hge]
      exact ⟨rfl, hk⟩
  · have h0 : nmP l wk er 1 = (0, wk, er) := by unfold nmP; rw [if_neg he]
    have h1 : lsP l wk er = (wk, er, []) := by
      unfold lsP
      rw [h0]
      dsimp only
      rw [if_neg (by decide)]
      rfl
    rw [h1]
    refine ⟨?_, hk⟩
    simp only [resT, if_neg he]
    split <;> rfl
theorem wrap_u32 {x : Int} (h0 : 0 ≤ x) (h1 : x < 4294967296) : IntKind.u32.wrap (IntKind.i64.wrap x) = IntKind.u32.wrap x := by rw [wr_i64 (by omega) (by omega)]
theorem ltF_102 {c : Int} {j w : Nat} {k : IntKind} (h : ltF c = .n j w k) : c ≠ 102 := by
  rintro rfl
  have : ltF 102 = .f 5 := rfl
  rw [this] at h; cases h
/-- A letter taken is its fields read. -/
theorem step_rd {l : List Int} {c : Int} {wk : Nat} {er : Int} {e : Ev} (hb : Byt l) (hk : wk ≤ l.length) :
    resT (stepT l c wk er e).2.1 (l.drop (stepT l c wk er e).1) (stepT l c wk er e).2.2 = rdF (ltFs c) (resT er (l.drop wk) e) ∧ (stepT l c wk er e).1 ≤ l.length := by
  unfold stepT ltFs
  split
  · refine ⟨?_, nm_le (nm_le hk)⟩
    rw [nm_rd (nm_le hk) ⟨upd e.n 13 (IntKind.u32.wrap (nmP l wk er 4).1), e.nums, e.mem⟩, nm_rd hk]; rfl
  split
  · refine ⟨?_, nm_le (nm_le hk)⟩
    rw [nm_rd (nm_le hk) ⟨upd e.n 24 (IntKind.u32.wrap (nmP l wk er 4).1), e.nums, e.mem⟩, nm_rd hk]; rfl
  split
  · exact ls_rd hb hk e 6
  split
  · exact ls_rd hb hk e 27
  refine ⟨?_, nm_le hk⟩
  rcases ltF_kind c with ⟨j, w, h, _⟩ | h | ⟨rfl, h⟩
  · have hc := ltF_102 h
    rw [h]
    simp only [wdF, setF, hc, false_and, if_false]
    rw [if_neg (by decide)]
    exact nm_rd hk e j .i64
  · have hc := ltF_102 h
    rw [h]
    simp only [wdF, setF, hc, false_and, if_false, if_true]
    have h0 := nmP_0 hb wk er 4 (by decide)
    rw [wrap_u32 h0.1 (by have := h0.2; rwa [show (256 : Int) ^ 4 = 4294967296 by decide] at this)]
    exact nm_rd hk e 26 .u32
  · rw [h]
    show resT (if (102 : Int) = 102 ∧ 1 < (nmP l wk er 1).1 then 361 else (nmP l wk er 1).2.2) (l.drop (nmP l wk er 1).2.1) ⟨upd e.n 5 (if IntKind.i64.wrap (nmP l wk er 1).1 = 1 then 1 else 0), e.nums, e.mem⟩ = rdF [.f 5] (resT er (l.drop wk) e)
    by_cases he : er = 0
    · subst he
      rcases Nat.lt_or_ge wk l.length with hlt | hge
      · obtain ⟨x, h1, h2, h3, h4⟩ := nm_one hb hlt
        rw [h2, h1]
        dsimp only
        show _ = if 1 < x then Res.code else .good (l.drop (wk + 1)) ⟨upd e.n 5 x, e.nums, e.mem⟩
        rw [wr_i64 (by omega) (by omega)]
        by_cases hx : 1 < x
        · rw [if_pos hx, if_pos ⟨rfl, hx⟩]; rfl
        · rw [if_neg hx, if_neg (fun h => hx h.2)]
          have : (if x = 1 then (1 : Int) else 0) = x := by split <;> omega
          rw [this]; rfl
      · rw [nm_none (Nat.not_lt.2 hge), List.drop_eq_nil_of_le hge]; rfl
    · have h0 : nmP l wk er 1 = (0, wk, er) := by unfold nmP; rw [if_neg he]
      rw [h0]
      dsimp only
      rw [if_neg (by decide)]
      simp only [resT, if_neg he]
      split <;> rfl
theorem go_rd {l : List Int} (hb : Byt l) : ∀ (cs : List Int) (wk : Nat) (er : Int) (e : Ev), wk ≤ l.length →
    resT (goT l cs wk er e).2.1 (l.drop (goT l cs wk er e).1) (goT l cs wk er e).2.2 = rdF (cs.flatMap ltFs) (resT er (l.drop wk) e) ∧ (goT l cs wk er e).1 ≤ l.length
  | [], wk, er, e, hk => ⟨rfl, hk⟩
  | c :: cs, wk, er, e, hk => by
    by_cases he : er = 0
    · simp only [goT, if_pos he, List.flatMap_cons]
      have h1 := step_rd (c := c) (er := er) (e := e) hb hk
      have h2 := go_rd hb cs (stepT l c wk er e).1 (stepT l c wk er e).2.1 (stepT l c wk er e).2.2 h1.2
      refine ⟨?_, h2.2⟩
      rw [h2.1, h1.1]
      simp [rdF]
    · simp only [goT, if_neg he]
      refine ⟨?_, hk⟩
      simp only [resT, if_neg he]
      split
      · rw [rdF_short]
      · rw [rdF_code]
theorem go_stop {l : List Int} {er : Int} (he : er ≠ 0) (cs : List Int) (wk : Nat) (e : Ev) : goT l cs wk er e = (wk, er, e) := by
  cases cs with
  | nil => rfl
  | cons c cs => simp only [goT, if_neg he]
theorem fldL_mem {k s : Int} {ls : List Int} (h : fldL k s = some ls) : ∀ c ∈ ls, ltO c := by
  have hT : ∀ T : List (List Int), (∀ l ∈ T, ∀ c ∈ l, ltO c) → ∀ j, T[j]? = some ls → ∀ c ∈ ls, ltO c := fun T hT j hj => hT ls (List.mem_of_getElem? hj)
  unfold fldL at h
  unfold ltO at *
  split at h
  · exact hT callT (by decide) _ h
  split at h
  · exact hT liveT (by decide) _ h
  split at h
  · cases h; decide
  · cases h
theorem callF_eq (k : Int) : callF k = if 1 ≤ k ∧ k ≤ 20 then (callT[k.toNat]?).map (fun ls => ls.flatMap ltFs) else none := by
  by_cases h : 1 ≤ k ∧ k ≤ 20
  · rw [if_pos h]
    obtain ⟨h1, h2⟩ := h
    have : k = 1 ∨ k = 2 ∨ k = 3 ∨ k = 4 ∨ k = 5 ∨ k = 6 ∨ k = 7 ∨ k = 8 ∨ k = 9 ∨ k = 10 ∨ k = 11 ∨ k = 12 ∨ k = 13 ∨ k = 14 ∨ k = 15 ∨ k = 16 ∨ k = 17 ∨ k = 18 ∨ k = 19 ∨ k = 20 := by omega
    rcases this with rfl | rfl | rfl | rfl | rfl | rfl | rfl | rfl | rfl | rfl | rfl | rfl | rfl | rfl | rfl | rfl | rfl | rfl | rfl | rfl <;> rfl
  · rw [if_neg h]
    unfold callF
    rw [if_neg (by omega), if_neg (by omega), if_neg (by omega), if_neg (by omega), if_neg (by omega), if_neg (by omega), if_neg (by omega), if_neg (by omega), if_neg (by omega), if_neg (by omega), if_neg (by omega), if_neg (by omega), if_neg (by omega), if_neg (by omega), if_neg (by omega), if_neg (by omega), if_neg (by omega), if_neg (by omega), if_neg (by omega), if_neg (by omega)]
theorem liveF_eq (k : Int) : liveF k = if 1 ≤ k ∧ k ≤ 10 then (liveT[k.toNat]?).map (fun ls => ls.flatMap ltFs) else none := by
  by_cases h : 1 ≤ k ∧ k ≤ 10
  · rw [if_pos h]
    obtain ⟨h1, h2⟩ := h
    have : k = 1 ∨ k = 2 ∨ k = 3 ∨ k = 4 ∨ k = 5 ∨ k = 6 ∨ k = 7 ∨ k = 8 ∨ k = 9 ∨ k = 10 := by omega
    rcases this with rfl | rfl | rfl | rfl | rfl | rfl | rfl | rfl | rfl | rfl <;> rfl
  · rw [if_neg h]
    unfold liveF
    repeat' split
    all_goals first | omega | rfl
theorem fld1 (s : Int) : callF s = (fldL 1 s).map (fun ls => ls.flatMap ltFs) := by
  rw [callF_eq]
  unfold fldL
  by_cases h : 1 ≤ s ∧ s ≤ 20
  · rw [if_pos h, if_pos ⟨rfl, h⟩]
  · rw [if_neg h, if_neg (by omega), if_neg (by omega), if_neg (by omega)]; rfl
theorem fld2 (s : Int) : liveF s = (fldL 2 s).map (fun ls => ls.flatMap ltFs) := by
  rw [liveF_eq]
  unfold fldL
  by_cases h : 1 ≤ s ∧ s ≤ 10
  · rw [if_pos h, if_neg (by omega), if_pos ⟨rfl, h⟩]
  · rw [if_neg h, if_neg (by omega), if_neg (by omega), if_neg (by omega)]; rfl
/-- What taking an event comes to. -/
def actP (l : List Int) (wk : Nat) (er : Int) : Nat × Int × Ev :=
  let p1 := nmP l wk er 1
  let er1 := if p1.2.2 = 0 ∧ (p1.1 < 1 ∨ p1.1 > 3) then 361 else p1.2.2
  let p2 := if p1.1 = 3 then (0, p1.2.1, er1) else nmP l p1.2.1 er1 1
  let er2 := if p2.2.2 = 0 ∧ fldL p1.1 p2.1 = none then 361 else p2.2.2
  goT l ((fldL p1.1 p2.1).getD []) p2.2.1 er2 (bgE p1.1 p2.1)
theorem nm_err {l : List Int} {wk : Nat} {er : Int} {w : Nat} (he : er ≠ 0) : nmP l wk er w = (0, wk, er) := by unfold nmP; rw [if_neg he]
/-- A kind and a sub-kind taken, then the letters. -/
theorem sub_go {l : List Int} (hb : Byt l) {wk : Nat} (hk : wk ≤ l.length) (kd : Int) (j : Nat) (F : Int → Option (List Fd)) (e1 : Ev) (hF : ∀ s, F s = (fldL kd s).map (fun ls => ls.flatMap ltFs)) (hbg : ∀ s, bgE kd s = ⟨upd e1.n j s, e1.nums, e1.mem⟩)
    (wk' : Nat) (er' : Int) (e' : Ev) (h : goT l ((fldL kd (nmP l wk 0 1).1).getD []) (nmP l wk 0 1).2.1 (if (nmP l wk 0 1).2.2 = 0 ∧ fldL kd (nmP l wk 0 1).1 = none then 361 else (nmP l wk 0 1).2.2) (bgE kd (nmP l wk 0 1).1) = (wk', er', e')) :
    resT er' (l.drop wk') e' = subE (.good (l.drop wk) e1) j F ∧ wk' ≤ l.length := by
  have hr := nm_rd (w := 1) (er := 0) hk e1 j .i64
  unfold subE
  rw [show Res.good (l.drop wk) e1 = resT 0 (l.drop wk) e1 from rfl, ← hr]
  rcases Nat.lt_or_ge wk l.length with hlt | hge
  · obtain ⟨x, h1, h2, h3, h4⟩ := nm_one hb hlt
    rw [h2] at h ⊢
    dsimp only at h ⊢
    have hx : IntKind.i64.wrap x = x := wr_i64 (by omega) (by omega)
    rw [hx]
    show _ = (match F ((upd e1.n j x) j) with | some fs => rdF fs (.good (l.drop (wk + 1)) ⟨upd e1.n j x, e1.nums, e1.mem⟩) | none => .code) ∧ _
    rw [upd_at, hF]
    cases hf : fldL kd x with
    | none =>
      rw [hf, if_pos ⟨rfl, rfl⟩] at h
      cases h
      exact ⟨rfl, hlt⟩
    | some ls =>
      rw [hf, if_neg (fun h => by cases h.2)] at h
      have hg := go_rd hb ls (wk + 1) 0 (bgE kd x) hlt
      simp only [Option.getD_some] at h
      rw [h] at hg
      rw [← hbg]
      exact hg
  · rw [nm_none (Nat.not_lt.2 hge)] at h ⊢
    dsimp only at h ⊢
    rw [if_neg (fun h => by cases h.1), go_stop (by decide)] at h
    cases h
    exact ⟨rfl, hk⟩
theorem act_rd {l : List Int} (hb : Byt l) {wk : Nat} (hk : wk ≤ l.length) {wk' : Nat} {er' : Int} {e' : Ev} (h : actP l wk 0 = (wk', er', e')) : resT er' (l.drop wk') e' = rdE (l.drop wk) ∧ wk' ≤ l.length := by
  have hr := nm_rd (w := 1) (er := 0) hk zeroEv 0 .i64
  unfold actP at h
  dsimp only at h
  unfold rdE
  rw [show Res.good (l.drop wk) zeroEv = resT 0 (l.drop wk) zeroEv from rfl, ← hr]
  rcases Nat.lt_or_ge wk l.length with hlt | hge
  · obtain ⟨x, h1, h2, h3, h4⟩ := nm_one hb hlt
    rw [h2] at h ⊢
    dsimp only at h ⊢
    have hx : IntKind.i64.wrap x = x := wr_i64 (by omega) (by omega)
    rw [hx]
    obtain ⟨e1, he1⟩ : ∃ e1 : Ev, e1 = ⟨upd zeroEv.n 0 x, zeroEv.nums, zeroEv.mem⟩ := ⟨_, rfl⟩
    have hn : e1.n 0 = x := by rw [he1]; exact upd_at zeroEv.n 0 x
    rw [← he1, show resT 0 (l.drop (wk + 1)) e1 = Res.good (l.drop (wk + 1)) e1 from rfl]
    dsimp only
    rw [hn]
    by_cases x1 : x = 1
    · subst x1
      rw [if_pos rfl]
      have c1 : ¬ ((0 : Int) = 0 ∧ ((1 : Int) < 1 ∨ (1 : Int) > 3)) := by omega
      have c2 : ¬ (1 : Int) = 3 := by decide
      rw [if_neg c1, if_neg c2] at h
      exact sub_go hb hlt 1 1 callF e1 fld1 (fun s => by rw [he1]; rfl) _ _ _ h
    rw [if_neg x1]
    by_cases x2 : x = 2
    · subst x2
      rw [if_pos rfl]
      have c1 : ¬ ((0 : Int) = 0 ∧ ((2 : Int) < 1 ∨ (2 : Int) > 3)) := by omega
      have c2 : ¬ (2 : Int) = 3 := by decide
      rw [if_neg c1, if_neg c2] at h
      exact sub_go hb hlt 2 15 liveF e1 fld2 (fun s => by rw [he1]; rfl) _ _ _ h
    rw [if_neg x2]
    by_cases x3 : x = 3
    · subst x3
      rw [if_pos rfl]
      rw [if_pos rfl] at h
      dsimp only at h
      have hf : fldL 3 0 = some [116] := rfl
      have c1 : ¬ ((0 : Int) = 0 ∧ ((3 : Int) < 1 ∨ (3 : Int) > 3)) := by omega
      have c2 : ¬ ((0 : Int) = 0 ∧ some ([116] : List Int) = none) := fun h => by cases h.2
      rw [hf, if_neg c1, if_neg c2] at h
      have hg := go_rd hb [116] (wk + 1) 0 (bgE 3 0) hlt
      simp only [Option.getD_some] at h
      rw [h] at hg
      rw [he1]
      exact hg
    · rw [if_neg x3]
      have c1 : (0 : Int) = 0 ∧ (x < 1 ∨ x > 3) := by omega
      rw [if_neg x3, if_pos c1, nm_err (by decide)] at h
      dsimp only at h
      rw [if_neg (fun h => by cases h.1), go_stop (by decide)] at h
      cases h
      exact ⟨rfl, hlt⟩
  · rw [nm_none (Nat.not_lt.2 hge)] at h ⊢
    dsimp only at h ⊢
    have c1 : ¬ ((7 : Int) = 0 ∧ ((0 : Int) < 1 ∨ (0 : Int) > 3)) := by omega
    have c2 : ¬ (0 : Int) = 3 := by decide
    rw [if_neg c1, if_neg c2, nm_err (by decide)] at h
    dsimp only at h
    rw [if_neg (fun h => by cases h.1), go_stop (by decide)] at h
    cases h
    exact ⟨rfl, hk⟩
end Go.Proofs.Ytalafklnnohlgaa.Cod
