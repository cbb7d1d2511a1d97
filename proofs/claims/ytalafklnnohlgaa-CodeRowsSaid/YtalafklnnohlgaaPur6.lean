/- Which events may be, letter by letter, and their bytes: as Encode has it. Condition: the numbers are in their ranges. -/
import Derived.Test.YtalafklnnohlgaaPur5
namespace Go.Proofs.Ytalafklnnohlgaa.Cod
open Go.RowKit X
open Oct hiding agg39 size39
set_option linter.unusedVariables false
set_option linter.unusedSimpArgs false

/-- Does a number fit so many bytes? -/
def fitR (w : Nat) (v : Int) : Bool := !(Nat.blt w 8 && (decide (v < 0) || decide (256 ^ w ≤ v)))
/-- A letter of an event beside what counts so far; none: a number does not fit. -/
def stepR (a : Ev) (c : Int) (own : Ev) : Option Ev :=
  if c = 109 then some ⟨upd (upd own.n 13 (a.n 13)) 14 (a.n 14), own.nums, own.mem⟩ else
  if c = 77 then some ⟨upd (upd own.n 24 (a.n 24)) 25 (a.n 25), own.nums, own.mem⟩ else
  if c = 110 then some (own.setl 6 a.nums) else
  if c = 78 then some (own.setl 27 a.mem) else
  if fitR (wdF (ltF c)) (gtF a (ltF c)) then some (setF own (ltF c) (gtF a (ltF c))) else none
def goR (a : Ev) : List Int → Ev → Option Ev
  | [], own => some own
  | c :: cs, own => match stepR a c own with | some o => goR a cs o | none => none
def rightP (a : Ev) : Bool := match fldL (a.n 0) (subK a) with
  | none => false
  | some ls => match goR a ls (bgE (a.n 0) (subK a)) with
    | none => false
    | some own => sameE a own && (fewL a.nums && fewL a.mem)
/-- An event's bytes, letter by letter. -/
def wrR (a : Ev) (ls : List Int) : List Int := a.n 0 % 256 :: ((if a.n 0 = 3 then [] else [subK a % 256]) ++ ls.flatMap (fun c => wrF (ltFs c) a))
def hdr (a : Ev) : List Fd := if a.n 0 = 1 then [.n 0 1 .i64, .n 1 1 .i64] else if a.n 0 = 2 then [.n 0 1 .i64, .n 15 1 .i64] else [.n 0 1 .i64]
theorem fld_kind {k s : Int} {ls : List Int} (h : fldL k s = some ls) : (k = 1 ∧ 1 ≤ s ∧ s ≤ 20) ∨ (k = 2 ∧ 1 ≤ s ∧ s ≤ 10) ∨ (k = 3 ∧ s = 0) := by
  unfold fldL at h
  split at h
  · exact .inl (by assumption)
  split at h
  · exact .inr (.inl (by assumption))
  split at h
  · exact .inr (.inr (by assumption))
  · cases h
theorem fld_len {k s : Int} {ls : List Int} (h : fldL k s = some ls) : ls.length ≤ 4 := by
  have hT : ∀ T : List (List Int), (∀ l ∈ T, l.length ≤ 4) → ∀ j : Nat, T[j]? = some ls → ls.length ≤ 4 := fun T hT j hj => hT ls (List.mem_of_getElem? hj)
  unfold fldL at h
  split at h
  · exact hT callT (by decide) _ h
  split at h
  · exact hT liveT (by decide) _ h
  split at h
  · cases h; decide
  · cases h
theorem fld_none {k s : Int} (h1 : k ≠ 1) (h2 : k ≠ 2) (h3 : k ≠ 3) : fldL k s = none := by
  unfold fldL
  rw [if_neg (by omega), if_neg (by omega), if_neg (by omega)]
theorem evF_fld {a : Ev} {ls : List Int} (h : fldL (a.n 0) (subK a) = some ls) : evF a = some (hdr a ++ ls.flatMap ltFs) := by
  unfold evF hdr
  rcases fld_kind h with ⟨h0, _⟩ | ⟨h0, _⟩ | ⟨h0, hs⟩
  · have hs : subK a = a.n 1 := by unfold subK; rw [if_pos h0]
    rw [h0, hs] at h
    rw [if_pos h0, if_pos h0, fld1, h]; rfl
  · have hs : subK a = a.n 15 := by unfold subK; rw [if_neg (by omega), if_pos h0]
    rw [h0, hs] at h
    rw [if_neg (by omega), if_pos h0, if_neg (by omega), if_pos h0, fld2, h]; rfl
  · rw [h0, hs] at h
    have : ls = [116] := by
      have e : fldL 3 0 = some [116] := rfl
      rw [e] at h; exact (Option.some.inj h).symm
    subst this
    rw [if_neg (by omega), if_neg (by omega), if_pos h0, if_neg (by omega), if_neg (by omega)]; rfl
theorem evF_none {a : Ev} (h : fldL (a.n 0) (subK a) = none) : evF a = none := by
  unfold evF
  by_cases h1 : a.n 0 = 1
  · have hs : subK a = a.n 1 := by unfold subK; rw [if_pos h1]
    rw [h1, hs] at h
    rw [if_pos h1, fld1, h]; rfl
  by_cases h2 : a.n 0 = 2
  · have hs : subK a = a.n 15 := by unfold subK; rw [if_neg h1, if_pos h2]
    rw [h2, hs] at h
    rw [if_neg h1, if_pos h2, fld2, h]; rfl
  by_cases h3 : a.n 0 = 3
  · have hs : subK a = 0 := by unfold subK; rw [if_neg h1, if_neg h2]
    rw [h3, hs] at h
    have e : fldL 3 0 = some [116] := rfl
    rw [e] at h; cases h
  · rw [if_neg h1, if_neg h2, if_neg h3]
theorem beB_one (x : Int) : beB 1 (IntKind.u64.wrap x) = [x % 256] := by
  show [(IntKind.u64.wrap x / 256 ^ 0) % 256] = _
  rw [X.wr_u64', show (256 : Int) ^ 0 = 1 by decide]
  congr 1; omega
theorem wrF_flat (a : Ev) (ls : List Int) : wrF (ls.flatMap ltFs) a = ls.flatMap (fun c => wrF (ltFs c) a) := by
  simp only [wrF, List.flatMap_assoc]
theorem wrE_fld {a : Ev} {ls : List Int} (h : fldL (a.n 0) (subK a) = some ls) : wrE a = wrR a ls := by
  unfold wrE
  rw [evF_fld h]
  dsimp only
  have e : wrF (hdr a ++ ls.flatMap ltFs) a = wrF (hdr a) a ++ wrF (ls.flatMap ltFs) a := by simp [wrF]
  rw [e, wrF_flat]
  unfold wrR hdr
  rcases fld_kind h with ⟨h0, _⟩ | ⟨h0, _⟩ | ⟨h0, hs⟩
  · have hs : subK a = a.n 1 := by unfold subK; rw [if_pos h0]
    rw [if_pos h0, if_neg (by omega), hs]
    simp only [wrF, wrD, List.flatMap_cons, List.flatMap_nil, beB_one, List.append_nil, List.cons_append, List.nil_append]
  · have hs : subK a = a.n 15 := by unfold subK; rw [if_neg (by omega), if_pos h0]
    rw [if_neg (by omega), if_pos h0, if_neg (by omega), hs]
    simp only [wrF, wrD, List.flatMap_cons, List.flatMap_nil, beB_one, List.append_nil, List.cons_append, List.nil_append]
  · rw [if_neg (by omega), if_neg (by omega), if_pos h0]
    simp only [wrF, wrD, List.flatMap_cons, List.flatMap_nil, beB_one, List.append_nil, List.cons_append, List.nil_append]
/-- The number's fit, as the carrier has it. -/
theorem fit_eq {w : Nat} {v : Int} (hv : R64 v) (hw : w = 1 ∨ w = 2 ∨ w = 4 ∨ w = 8) : fitR w v = !nofit w (IntKind.u64.wrap v) := by
  unfold R64 at hv
  unfold fitR nofit
  rw [X.wr_u64']
  rcases hw with rfl | rfl | rfl | rfl
  · simp only [show Nat.blt 1 8 = true by rfl, Bool.true_and]
    congr 1
    rw [show (256 : Int) ^ 1 = 256 by decide]
    by_cases h0 : v < 0
    · rw [decide_eq_true h0, decide_eq_false (by omega : ¬ v % 18446744073709551616 / 256 = 0)]; rfl
    · rw [decide_eq_false h0, Bool.false_or]
      by_cases h1 : 256 ≤ v
      · rw [decide_eq_true h1, decide_eq_false (by omega : ¬ v % 18446744073709551616 / 256 = 0)]; rfl
      · rw [decide_eq_false h1, decide_eq_true (by omega : v % 18446744073709551616 / 256 = 0)]; rfl
  · simp only [show Nat.blt 2 8 = true by rfl, Bool.true_and]
    congr 1
    rw [show (256 : Int) ^ 2 = 65536 by decide]
    by_cases h0 : v < 0
    · rw [decide_eq_true h0, decide_eq_false (by omega : ¬ v % 18446744073709551616 / 65536 = 0)]; rfl
    · rw [decide_eq_false h0, Bool.false_or]
      by_cases h1 : 65536 ≤ v
      · rw [decide_eq_true h1, decide_eq_false (by omega : ¬ v % 18446744073709551616 / 65536 = 0)]; rfl
      · rw [decide_eq_false h1, decide_eq_true (by omega : v % 18446744073709551616 / 65536 = 0)]; rfl
  · simp only [show Nat.blt 4 8 = true by rfl, Bool.true_and]
    congr 1
    rw [show (256 : Int) ^ 4 = 4294967296 by decide]
    by_cases h0 : v < 0
    · rw [decide_eq_true h0, decide_eq_false (by omega : ¬ v % 18446744073709551616 / 4294967296 = 0)]; rfl
    · rw [decide_eq_false h0, Bool.false_or]
      by_cases h1 : 4294967296 ≤ v
      · rw [decide_eq_true h1, decide_eq_false (by omega : ¬ v % 18446744073709551616 / 4294967296 = 0)]; rfl
      · rw [decide_eq_false h1, decide_eq_true (by omega : v % 18446744073709551616 / 4294967296 = 0)]; rfl
  · rfl
/-- Do a letter's numbers fit? (lists apart) -/
def okN (a : Ev) (f : Fd) : Bool := match f with | .l _ => true | f => okD a f
theorem ltF_kind2 (c : Int) : (∃ j w, ltF c = .n j w .i64 ∧ (w = 1 ∨ w = 2 ∨ w = 4 ∨ w = 8) ∧ j ≠ 26) ∨ (ltF c = .n 26 4 .u32) ∨ (c = 102 ∧ ltF c = .f 5) := by
  by_cases h100 : c = 100
  · subst h100; exact .inl ⟨_, _, rfl, by decide⟩
  by_cases h119 : c = 119
  · subst h119; exact .inl ⟨_, _, rfl, by decide⟩
  by_cases h99 : c = 99
  · subst h99; exact .inl ⟨_, _, rfl, by decide⟩
  by_cases h113 : c = 113
  · subst h113; exact .inl ⟨_, _, rfl, by decide⟩
  by_cases h118 : c = 118
  · subst h118; exact .inl ⟨_, _, rfl, by decide⟩
  by_cases h112 : c = 112
  · subst h112; exact .inl ⟨_, _, rfl, by decide⟩
  by_cases h111 : c = 111
  · subst h111; exact .inl ⟨_, _, rfl, by decide⟩
  by_cases h102 : c = 102
  · subst h102; exact .inr (.inr ⟨rfl, rfl⟩)
  by_cases h97 : c = 97
  · subst h97; exact .inl ⟨_, _, rfl, by decide⟩
  by_cases h101 : c = 101
  · subst h101; exact .inl ⟨_, _, rfl, by decide⟩
  by_cases h116 : c = 116
  · subst h116; exact .inl ⟨_, _, rfl, by decide⟩
  by_cases h68 : c = 68
  · subst h68; exact .inl ⟨_, _, rfl, by decide⟩
  by_cases h87 : c = 87
  · subst h87; exact .inl ⟨_, _, rfl, by decide⟩
  by_cases h67 : c = 67
  · subst h67; exact .inl ⟨_, _, rfl, by decide⟩
  by_cases h80 : c = 80
  · subst h80; exact .inl ⟨_, _, rfl, by decide⟩
  by_cases h86 : c = 86
  · subst h86; exact .inl ⟨_, _, rfl, by decide⟩
  by_cases h71 : c = 71
  · subst h71; exact .inl ⟨_, _, rfl, by decide⟩
  by_cases h83 : c = 83
  · subst h83; exact .inr (.inl rfl)
  by_cases h73 : c = 73
  · subst h73; exact .inl ⟨_, _, rfl, by decide⟩
  refine .inl ⟨19, 1, ?_, by decide⟩
  unfold ltF
  rw [if_neg h100, if_neg h119, if_neg h99, if_neg h113, if_neg h118, if_neg h112, if_neg h111, if_neg h102, if_neg h97, if_neg h101, if_neg h116, if_neg h68, if_neg h87, if_neg h67, if_neg h80, if_neg h86, if_neg h71, if_neg h83, if_neg h73]
theorem step_R {a : Ev} (ha : wfE a) (c : Int) (own : Ev) : stepR a c own = if (ltFs c).all (okN a) then some (putF (ltFs c) a own) else none := by
  have h32 : ∀ j ∈ [13, 14, 24, 25, 26], okN a (.n j 4 .u32) = true := fun j hj => by
    have h := ha.2.1 j hj
    show (!nofit 4 (IntKind.u64.wrap (a.n j))) = true
    unfold nofit
    rw [X.wr_u64', show (256 : Int) ^ 4 = 4294967296 by decide, decide_eq_true (by omega : a.n j % 18446744073709551616 / 4294967296 = 0)]
    rfl
  unfold stepR ltFs
  split
  · simp only [List.all_cons, List.all_nil, h32 13 (by decide), h32 14 (by decide), Bool.and_true, if_true]; rfl
  split
  · simp only [List.all_cons, List.all_nil, h32 24 (by decide), h32 25 (by decide), Bool.and_true, if_true]; rfl
  split
  · rfl
  split
  · rfl
  rcases ltF_kind2 c with ⟨j, w, h, hw, _⟩ | h | ⟨_, h⟩
  · rw [h]
    have e : okN a (.n j w .i64) = fitR w (a.n j) := (fit_eq (ha.1 j) hw).symm
    simp only [List.all_cons, List.all_nil, Bool.and_true, e]
    rfl
  · rw [h]
    have g := ha.2.1 26 (by decide)
    have e : gtF a (.n 26 4 .u32) = a.n 26 := by show IntKind.i64.wrap (a.n 26) = _; rw [wr_i64 (by omega) (by omega)]
    have e2 : fitR 4 (a.n 26) = true := (fit_eq (ha.1 26) (.inr (.inr (.inl rfl)))).trans (h32 26 (by decide))
    simp only [List.all_cons, List.all_nil, Bool.and_true, h32 26 (by decide), wdF, e, e2, if_true, Option.some.injEq]
    show (⟨upd own.n 26 (IntKind.u32.wrap (a.n 26)), own.nums, own.mem⟩ : Ev) = ⟨upd own.n 26 (a.n 26), own.nums, own.mem⟩
    rw [wr_u32, Int.emod_eq_of_lt g.1 g.2]
  · rw [h]
    have g := ha.2.2.1
    have e2 : fitR 1 (gtF a (.f 5)) = true := by rcases g with g | g <;> simp [gtF, g] <;> rfl
    simp only [List.all_cons, List.all_nil, Bool.and_true, wdF, e2, if_true]
    show some (⟨upd own.n 5 (if gtF a (.f 5) = 1 then 1 else 0), own.nums, own.mem⟩ : Ev) = some ⟨upd own.n 5 (a.n 5), own.nums, own.mem⟩
    have e : (if gtF a (.f 5) = 1 then (1 : Int) else 0) = a.n 5 := by rcases g with g | g <;> simp [gtF, g]
    rw [e]
theorem go_R {a : Ev} (ha : wfE a) : ∀ (ls : List Int) (own : Ev), goR a ls own = if (ls.flatMap ltFs).all (okN a) then some (putF (ls.flatMap ltFs) a own) else none
  | [], own => rfl
  | c :: ls, own => by
    unfold goR
    rw [step_R ha, List.flatMap_cons, List.all_append]
    cases h : (ltFs c).all (okN a) with
    | false => rfl
    | true =>
      simp only [if_true, Bool.true_and]
      rw [go_R ha ls]
      simp [putF]
theorem put_bg {a : Ev} {ls : List Int} (h : fldL (a.n 0) (subK a) = some ls) : putF (hdr a) a zeroEv = bgE (a.n 0) (subK a) := by
  unfold hdr bgE
  rcases fld_kind h with ⟨h0, _⟩ | ⟨h0, _⟩ | ⟨h0, hs⟩
  · have hs : subK a = a.n 1 := by unfold subK; rw [if_pos h0]
    rw [if_pos h0, if_pos h0, hs]; rfl
  · have hs : subK a = a.n 15 := by unfold subK; rw [if_neg (by omega), if_pos h0]
    rw [if_neg (by omega), if_pos h0, if_neg (by omega), if_pos h0, hs]; rfl
  · rw [if_neg (by omega), if_neg (by omega), if_neg (by omega), if_neg (by omega)]; rfl
theorem norm_fld {a : Ev} {ls : List Int} (h : fldL (a.n 0) (subK a) = some ls) : normE a = putF (ls.flatMap ltFs) a (bgE (a.n 0) (subK a)) := by
  unfold normE
  rw [evF_fld h]
  dsimp only
  rw [← put_bg h]
  simp [putF]
theorem hdr_ok {a : Ev} {ls : List Int} (h : fldL (a.n 0) (subK a) = some ls) : okF (hdr a) a = true := by
  have one : ∀ j, 0 ≤ a.n j → a.n j < 256 → okD a (.n j 1 .i64) = true := fun j h0 h1 => by
    show (!nofit 1 (IntKind.u64.wrap (a.n j))) = true
    rw [fit_one ⟨h0, h1⟩]; rfl
  unfold hdr
  rcases fld_kind h with ⟨h0, h1⟩ | ⟨h0, h1⟩ | ⟨h0, hs⟩
  · have hs : subK a = a.n 1 := by unfold subK; rw [if_pos h0]
    rw [hs] at h1
    rw [if_pos h0]
    simp only [okF, List.all_cons, List.all_nil, Bool.and_true, one 0 (by omega) (by omega), one 1 (by omega) (by omega)]
  · have hs : subK a = a.n 15 := by unfold subK; rw [if_neg (by omega), if_pos h0]
    rw [hs] at h1
    rw [if_neg (by omega), if_pos h0]
    simp only [okF, List.all_cons, List.all_nil, Bool.and_true, one 0 (by omega) (by omega), one 15 (by omega) (by omega)]
  · rw [if_neg (by omega), if_neg (by omega)]
    simp only [okF, List.all_cons, List.all_nil, Bool.and_true, one 0 (by omega) (by omega)]
theorem fewL_iff (l : List Int) : fewL l = true ↔ l.length ≤ 32 ∧ ∀ x ∈ l, 0 ≤ x ∧ x < 256 := by
  unfold fewL
  rw [Bool.and_eq_true, List.all_eq_true, decide_eq_true_iff]
  constructor
  · rintro ⟨h1, h2⟩
    exact ⟨h2, fun x hx => by have := of_decide_eq_true (h1 x hx); omega⟩
  · rintro ⟨h1, h2⟩
    exact ⟨fun x hx => decide_eq_true (by have := h2 x hx; omega), h1⟩
theorem few_ok {a : Ev} (ha : wfE a) {j : Nat} (hj : j = 6 ∨ j = 27) : okD a (.l j) = true ↔ fewL (a.lst j) = true := by
  have hR := lst_R ha j
  rw [fewL_iff]
  show (decide ((a.lst j).length ≤ 32) && (a.lst j).all (fun x => !nofit 1 (IntKind.u64.wrap x))) = true ↔ _
  rw [Bool.and_eq_true, decide_eq_true_iff, List.all_eq_true]
  constructor
  · rintro ⟨h1, h2⟩
    exact ⟨h1, fun x hx => byte_of (hR x hx) (by simpa using h2 x hx)⟩
  · rintro ⟨h1, h2⟩
    exact ⟨h1, fun x hx => by rw [fit_one (h2 x hx)]; rfl⟩
/-- A list's field stands among the fields, or what is put leaves the list as it was. -/
theorem put_lst (a : Ev) {j : Nat} (hj : j = 6 ∨ j = 27) : ∀ (fs : List Fd) (e : Ev), (∀ f ∈ fs, goodW f) → (Fd.l j ∈ fs) ∨ (putF fs a e).lst j = e.lst j
  | [], e, _ => .inr rfl
  | f :: fs, e, hg => by
    rcases put_lst a hj fs (putD a f e) (fun q hq => hg q (by simp [hq])) with h | h
    · exact .inl (by simp [h])
    · by_cases hf : f = .l j
      · exact .inl (by simp [hf])
      · right
        show (putF fs a (putD a f e)).lst j = _
        rw [h]
        cases f with
        | n i w k => rcases hj with rfl | rfl <;> rfl
        | f i => rcases hj with rfl | rfl <;> rfl
        | l i =>
          have hi : i = 6 ∨ i = 27 := hg (.l i) (by simp)
          rcases hi with rfl | rfl <;> rcases hj with rfl | rfl <;> first | exact absurd rfl hf | rfl
theorem fld_good {k s : Int} {ls : List Int} (h : fldL k s = some ls) : ∀ f ∈ ls.flatMap ltFs, goodW f := by
  rcases fld_kind h with ⟨rfl, _⟩ | ⟨rfl, _⟩ | ⟨rfl, rfl⟩
  · exact (callF_good (k := s) (by rw [fld1, h]; rfl)).1
  · exact (liveF_good (k := s) (by rw [fld2, h]; rfl)).1
  · have e : fldL 3 0 = some [116] := rfl
    rw [e] at h; cases h
    intro f hf
    simp only [List.flatMap_cons, List.flatMap_nil, List.append_nil] at hf
    have : f = .n 28 8 .i64 := by simpa [ltFs, ltF] using hf
    subst this
    exact ⟨by decide, .inl ⟨rfl, .inr (.inr (.inr rfl))⟩⟩
theorem okF_okN (a : Ev) : ∀ fs : List Fd, okF fs a = true ↔ fs.all (okN a) = true ∧ ∀ j, Fd.l j ∈ fs → okD a (.l j) = true
  | [] => by simp [okF]
  | f :: fs => by
    have ih := okF_okN a fs
    simp only [okF] at ih
    simp only [okF, List.all_cons, Bool.and_eq_true, ih]
    constructor
    · rintro ⟨h1, h2, h3⟩
      refine ⟨⟨?_, h2⟩, fun j hj => ?_⟩
      · cases f <;> first | exact h1 | rfl
      · rcases List.mem_cons.1 hj with rfl | hj
        · exact h1
        · exact h3 j hj
    · rintro ⟨⟨h1, h2⟩, h3⟩
      refine ⟨?_, h2, fun j hj => h3 j (by simp [hj])⟩
      cases f with
      | n _ _ _ => exact h1
      | f _ => exact h1
      | l j => exact h3 j (by simp)
theorem same_comm (a b : Ev) : sameE a b = sameE b a := by
  cases h : sameE a b with
  | true => exact ((same_iff b a).2 ((same_iff a b).1 h).symm).symm
  | false => cases k : sameE b a with
    | false => rfl
    | true => rw [(same_iff a b).2 ((same_iff b a).1 k).symm] at h; cases h
/-- Which events may be: as Encode has it. -/
theorem right_eq {a : Ev} (ha : wfE a) : rightP a = (encP a).isSome := by
  rw [encP_eq ha]
  unfold rightP
  cases hf : fldL (a.n 0) (subK a) with
  | none =>
    have : okE a = false := by unfold okE; rw [evF_none hf]
    rw [this]; simp
  | some ls =>
    have hok : okE a = okF (ls.flatMap ltFs) a := by
      unfold okE
      rw [evF_fld hf]
      dsimp only
      simp only [okF, List.all_append]
      rw [show (hdr a).all (okD a) = true from hdr_ok hf, Bool.true_and]
    dsimp only
    rw [go_R ha, norm_fld hf, hok]
    generalize hown : putF (ls.flatMap ltFs) a (bgE (a.n 0) (subK a)) = own
    have hg := fld_good hf
    have hput : ∀ j, j = 6 ∨ j = 27 → Fd.l j ∈ ls.flatMap ltFs ∨ own.lst j = [] := fun j hj => by
      rcases put_lst a hj (ls.flatMap ltFs) (bgE (a.n 0) (subK a)) hg with h | h
      · exact .inl h
      · right
        rw [← hown, h]
        rcases hj with rfl | rfl <;> rfl
    have hiff := okF_okN a (ls.flatMap ltFs)
    have hmem : ∀ j, Fd.l j ∈ ls.flatMap ltFs → j = 6 ∨ j = 27 := fun j hj => hg (.l j) hj
    cases hN : (ls.flatMap ltFs).all (okN a) with
    | false =>
      have : okF (ls.flatMap ltFs) a = false := by
        cases h : okF (ls.flatMap ltFs) a with
        | false => rfl
        | true => rw [(hiff.1 h).1] at hN; cases hN
      rw [this]; simp
    | true =>
      simp only [if_true]
      rw [same_comm a own]
      cases hs : sameE own a with
      | false => simp
      | true =>
        have hag := (same_iff _ _).1 hs
        have key : okF (ls.flatMap ltFs) a = (fewL a.nums && fewL a.mem) := by
          have h6 := few_ok ha (.inl rfl : (6 : Nat) = 6 ∨ (6 : Nat) = 27)
          have h27 := few_ok ha (.inr rfl : (27 : Nat) = 6 ∨ (27 : Nat) = 27)
          have g6 := hput 6 (.inl rfl)
          have g27 := hput 27 (.inr rfl)
          have l6 : a.lst 6 = a.nums := rfl
          have l27 : a.lst 27 = a.mem := rfl
          have o6 : own.lst 6 = a.nums := hag.2.2.1
          have o27 : own.lst 27 = a.mem := hag.2.2.2
          rw [l6] at h6
          rw [l27] at h27
          have n6 : fewL [] = true := rfl
          rw [Bool.eq_iff_iff, Bool.and_eq_true, hiff]
          constructor
          · rintro ⟨_, h⟩
            refine ⟨?_, ?_⟩
            · rcases g6 with g | g
              · exact h6.1 (h 6 g)
              · rw [← o6, g]; rfl
            · rcases g27 with g | g
              · exact h27.1 (h 27 g)
              · rw [← o27, g]; rfl
          · rintro ⟨k6, k27⟩
            refine ⟨hN, fun j hj => ?_⟩
            rcases hmem j hj with rfl | rfl
            · exact h6.2 k6
            · exact h27.2 k27
        rw [key]
        cases fewL a.nums <;> cases fewL a.mem <;> rfl
theorem right_few {a : Ev} (h : rightP a = true) : a.nums.length ≤ 32 ∧ a.mem.length ≤ 32 ∧ ∃ ls, fldL (a.n 0) (subK a) = some ls := by
  unfold rightP at h
  cases hf : fldL (a.n 0) (subK a) with
  | none => rw [hf] at h; cases h
  | some ls =>
    rw [hf] at h
    dsimp only at h
    cases hg : goR a ls (bgE (a.n 0) (subK a)) with
    | none => rw [hg] at h; cases h
    | some own =>
      rw [hg] at h
      simp only [Bool.and_eq_true] at h
      exact ⟨((fewL_iff _).1 h.2.1).1, ((fewL_iff _).1 h.2.2).1, ls, rfl⟩
/-- The bytes of an event that may be. -/
theorem enc_wrR {a : Ev} {y ls : List Int} (h : encP a = some y) (hf : fldL (a.n 0) (subK a) = some ls) : wrR a ls = y := by rw [← wrE_fld hf, ← (encP_some h).1]
end Go.Proofs.Ytalafklnnohlgaa.Cod
