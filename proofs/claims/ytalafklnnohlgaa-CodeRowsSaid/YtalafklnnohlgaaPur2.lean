/- Events that are the same; what Encode and Decode answer, in plain numbers. Condition: the bytes are such. -/
import Derived.Test.YtalafklnnohlgaaCod12
import Derived.Test.YtalafklnnohlgaaPur1
namespace Go.Proofs.Ytalafklnnohlgaa.Cod
open Oct hiding agg39 size39
set_option linter.unusedVariables false

def cmpJ : List Nat := [0, 28, 1, 2, 3, 4, 7, 8, 9, 10, 11, 12, 13, 14, 15, 16, 17, 18, 19, 20, 21, 22, 23, 24, 25, 26]
def Agree (a b : Ev) : Prop := (∀ j ∈ cmpJ, a.n j = b.n j) ∧ (a.n 5 = 1 ↔ b.n 5 = 1) ∧ a.nums = b.nums ∧ a.mem = b.mem
theorem same_iff (a b : Ev) : sameE a b = true ↔ Agree a b := by
  simp only [sameE, sm1, sm2, sm3, sm4, Bool.and_eq_true, beq_iff_eq, decide_eq_true_eq, Agree, cmpJ, List.forall_mem_cons, List.not_mem_nil, false_implies, implies_true, and_true]
  have hf : ((a.n 5 == 1) = (b.n 5 == 1)) ↔ (a.n 5 = 1 ↔ b.n 5 = 1) := by
    rw [Bool.eq_iff_iff, beq_iff_eq, beq_iff_eq]
  rw [hf]
  constructor
  · rintro ⟨⟨⟨⟨a1, a2, a3, a4, a5, a6, a7⟩, b1, b2, ⟨b3, b4, b5, b6⟩, ⟨b7, b8⟩, b9⟩, ⟨c1, c2, c3, c4, c5, c6, c7⟩, d1, d2, ⟨d3, d4⟩, d5⟩, e1⟩
    exact ⟨⟨a1, a2, a3, a4, a5, a6, b1, b2, b3, b4, b5, b6, b7, b8, c1, c2, c3, c4, c5, c6, c7, d1, d2, d3, d4, d5⟩, a7, b9, e1⟩
  · rintro ⟨⟨a1, a2, a3, a4, a5, a6, b1, b2, b3, b4, b5, b6, b7, b8, c1, c2, c3, c4, c5, c6, c7, d1, d2, d3, d4, d5⟩, a7, b9, e1⟩
    exact ⟨⟨⟨⟨a1, a2, a3, a4, a5, a6, a7⟩, b1, b2, ⟨b3, b4, b5, b6⟩, ⟨b7, b8⟩, b9⟩, ⟨c1, c2, c3, c4, c5, c6, c7⟩, d1, d2, ⟨d3, d4⟩, d5⟩, e1⟩
theorem Agree.refl (a : Ev) : Agree a a := ⟨fun _ _ => rfl, Iff.rfl, rfl, rfl⟩
theorem Agree.symm {a b : Ev} (h : Agree a b) : Agree b a := ⟨fun j hj => (h.1 j hj).symm, h.2.1.symm, h.2.2.1.symm, h.2.2.2.symm⟩
theorem Agree.trans {a b c : Ev} (h : Agree a b) (k : Agree b c) : Agree a c := ⟨fun j hj => (h.1 j hj).trans (k.1 j hj), h.2.1.trans k.2.1, h.2.2.1.trans k.2.2.1, h.2.2.2.trans k.2.2.2⟩
theorem same_refl (a : Ev) : sameE a a = true := (same_iff a a).2 (Agree.refl a)
def cmpF : Fd → Bool
  | .n j _ _ => cmpJ.contains j
  | .f j => j == 5
  | .l j => j == 6 || j == 27
theorem wr_agree {a b : Ev} (h : Agree a b) (f : Fd) (hf : cmpF f = true) : okD a f = okD b f ∧ wrD a f = wrD b f := by
  cases f with
  | n j w k =>
    have := h.1 j (List.contains_iff_mem.1 hf)
    simp only [okD, wrD, this, and_self]
  | f j =>
    simp only [cmpF, beq_iff_eq] at hf
    subst hf
    refine ⟨rfl, ?_⟩
    simp only [wrD, h.2.1]
  | l j =>
    simp only [cmpF, Bool.or_eq_true, beq_iff_eq] at hf
    have : a.lst j = b.lst j := by
      rcases hf with rfl | rfl
      · exact h.2.2.1
      · exact h.2.2.2
    simp only [okD, wrD, this, and_self]
theorem wrF_agree {a b : Ev} (h : Agree a b) (fs : List Fd) (hf : fs.all cmpF = true) : okF fs a = okF fs b ∧ wrF fs a = wrF fs b := by
  induction fs with
  | nil => exact ⟨rfl, rfl⟩
  | cons f fs ih =>
    simp only [List.all_cons, Bool.and_eq_true] at hf
    obtain ⟨h1, h2⟩ := wr_agree h f hf.1
    obtain ⟨h3, h4⟩ := ih hf.2
    simp only [okF, wrF, List.all_cons, List.flatMap_cons] at h3 h4 ⊢
    rw [h1, h2, h3, h4]; exact ⟨rfl, rfl⟩
theorem callF_cmp {k : Int} {fs : List Fd} (h : callF k = some fs) : fs.all cmpF = true := by
  by_cases h1 : k = 1
  · subst h1; cases h; rfl
  by_cases h2 : k = 2
  · subst h2; cases h; rfl
  by_cases h3 : k = 3
  · subst h3; cases h; rfl
  by_cases h10 : k = 10
  · subst h10; cases h; rfl
  by_cases h13 : k = 13
  · subst h13; cases h; rfl
  by_cases h16 : k = 16
  · subst h16; cases h; rfl
  by_cases h18 : k = 18
  · subst h18; cases h; rfl
  by_cases h19 : k = 19
  · subst h19; cases h; rfl
  by_cases h4 : k = 4
  · subst h4; cases h; rfl
  by_cases h5 : k = 5
  · subst h5; cases h; rfl
  by_cases h6 : k = 6
  · subst h6; cases h; rfl
  by_cases h7 : k = 7
  · subst h7; cases h; rfl
  by_cases h8 : k = 8
  · subst h8; cases h; rfl
  by_cases h9 : k = 9
  · subst h9; cases h; rfl
  by_cases h11 : k = 11
  · subst h11; cases h; rfl
  by_cases h12 : k = 12
  · subst h12; cases h; rfl
  by_cases h20 : k = 20
  · subst h20; cases h; rfl
  by_cases h14 : k = 14
  · subst h14; cases h; rfl
  by_cases h15 : k = 15
  · subst h15; cases h; rfl
  by_cases h17 : k = 17
  · subst h17; cases h; rfl
  simp only [callF, h1, h2, h3, h10, h13, h16, h18, h19, h4, h5, h6, h7, h8, h9, h11, h12, h20, h14, h15, h17, if_false] at h
  cases h
theorem liveF_cmp {k : Int} {fs : List Fd} (h : liveF k = some fs) : fs.all cmpF = true := by
  unfold liveF at h
  repeat' split at h
  all_goals first | (cases h; rfl) | cases h
theorem evF_agree {a b : Ev} (h : Agree a b) : evF a = evF b := by
  unfold evF
  rw [h.1 0 (by decide), h.1 1 (by decide), h.1 15 (by decide)]
theorem evF_cmp {a : Ev} {fs : List Fd} (h : evF a = some fs) : fs.all cmpF = true := by
  unfold evF at h
  split at h
  · obtain ⟨gs, hg, rfl⟩ := Option.map_eq_some_iff.1 h
    simp only [List.all_cons, callF_cmp hg]; rfl
  · split at h
    · obtain ⟨gs, hg, rfl⟩ := Option.map_eq_some_iff.1 h
      simp only [List.all_cons, liveF_cmp hg]; rfl
    · split at h
      · cases h; rfl
      · cases h
theorem wrE_agree {a b : Ev} (h : Agree a b) : okE a = okE b ∧ wrE a = wrE b := by
  unfold okE wrE
  rw [evF_agree h]
  cases hf : evF b with
  | none => exact ⟨rfl, rfl⟩
  | some fs => exact wrF_agree h fs (evF_cmp hf)

theorem decP_0 {b : List Int} {e : Ev} (h : decP b = (0, e)) : rdE b = .good [] e := by
  unfold decP at h
  cases hr : rdE b with
  | short => rw [hr] at h; cases h
  | code => rw [hr] at h; cases h
  | good r e' =>
    rw [hr] at h
    cases r with
    | nil => simp only [Prod.mk.injEq, true_and] at h; rw [h]
    | cons _ _ => cases h
theorem decP_good {b : List Int} {e : Ev} (h : rdE b = .good [] e) : decP b = (0, e) := by unfold decP; rw [h]
theorem decP_more {b t : List Int} {x : Int} {e : Ev} (h : rdE b = .good [] e) : decP (b ++ x :: t) = (361, zeroEv) := by unfold decP; rw [rdE_more h]
theorem decP_less {b : List Int} {e : Ev} (h : rdE b = .good [] e) {i : Nat} (hi : i < b.length) : decP (b.take i) = (7, zeroEv) := by unfold decP; rw [rdE_less h hi]
theorem decP_err (b : List Int) : (decP b).1 = 0 ∨ ((decP b).1 = 7 ∧ (decP b).2 = zeroEv) ∨ ((decP b).1 = 361 ∧ (decP b).2 = zeroEv) := by
  unfold decP
  split
  · exact .inl rfl
  · exact .inr (.inr ⟨rfl, rfl⟩)
  · exact .inr (.inl ⟨rfl, rfl⟩)
  · exact .inr (.inr ⟨rfl, rfl⟩)
theorem encP_some {a : Ev} {y : List Int} (h : encP a = some y) : y = wrE a ∧ okE a = true ∧ ∃ e, rdE y = .good [] e ∧ Agree e a := by
  unfold encP at h
  split at h
  · rename_i hc
    cases h
    refine ⟨rfl, hc.1, (decP (wrE a)).2, decP_0 (Prod.ext hc.2.1 rfl), (same_iff _ _).1 hc.2.2⟩
  · cases h
/-- What was decoded is encoded as it was. -/
theorem encP_back {b : List Int} {e : Ev} (hb : Byt b) (h : rdE b = .good [] e) : encP e = some b := by
  obtain ⟨h1, h2⟩ := rdE_wr hb h
  rw [List.append_nil] at h2
  unfold encP
  rw [← h2, decP_good h, h1]
  simp [same_refl]
/-- Unlike events have unlike bytes. -/
theorem enc_apart {a c : Ev} {p q : List Int} (hp : encP a = some p) (hq : encP c = some q) : p = q ↔ sameE a c = true := by
  obtain ⟨h1, h2, e, h3, h4⟩ := encP_some hp
  obtain ⟨k1, k2, f, k3, k4⟩ := encP_some hq
  rw [same_iff]
  constructor
  · rintro rfl
    rw [h3] at k3
    cases k3
    exact h4.symm.trans k4
  · intro h
    rw [h1, k1]; exact (wrE_agree h).2
theorem enc_prefix {a c : Ev} {p q : List Int} (hp : encP a = some p) (hq : encP c = some q) (h : q <+: p) : p = q := by
  obtain ⟨h1, h2, e, h3, h4⟩ := encP_some hp
  obtain ⟨k1, k2, f, k3, k4⟩ := encP_some hq
  obtain ⟨t, rfl⟩ := h
  cases t with
  | nil => simp
  | cons x t => rw [rdE_more k3] at h3; cases h3
theorem encE_0 {a : Ev} : encE a = 0 ↔ ∃ y, encP a = some y := by
  unfold encE
  cases h : encP a with
  | some y => exact ⟨fun _ => ⟨y, rfl⟩, fun _ => rfl⟩
  | none => exact ⟨fun h => absurd h (by decide), fun h => by obtain ⟨y, h⟩ := h; cases h⟩
theorem encB_of {a : Ev} {y : List Int} (h : encP a = some y) : encB a = y ∧ encE a = 0 := by
  unfold encB encE; rw [h]; exact ⟨rfl, rfl⟩
theorem encB_none {a : Ev} (h : encP a = none) : encB a = [] ∧ encE a = 360 := by
  unfold encB encE; rw [h]; exact ⟨rfl, rfl⟩
theorem byt_encB (a : Ev) : Byt (encB a) := by
  cases h : encP a with
  | none => rw [(encB_none h).1]; exact fun u hu => by cases hu
  | some y => rw [(encB_of h).1, (encP_some h).1]; exact byt_wrE a

/-- The call Up of a virtual CPU. -/
def upE (v : Int) : Ev := ⟨fun j => if j = 0 then 1 else if j = 1 then 5 else if j = 2 then v else 0, [], []⟩
theorem up3 : encP (upE 3) = some [1, 5, 3] := by decide +kernel
theorem up256 : encP (upE 256) = none := by decide +kernel
theorem dec153 : (decP [1, 5, 3]).1 = 0 ∧ (decP [1, 5, 3]).2.n 2 = 3 := by decide +kernel
end Go.Proofs.Ytalafklnnohlgaa.Cod
