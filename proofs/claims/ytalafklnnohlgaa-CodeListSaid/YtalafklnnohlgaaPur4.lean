/- Rows of events and their bytes, in plain numbers. Condition: the bytes are such. -/
import Derived.Test.YtalafklnnohlgaaCod17
namespace Go.Proofs.Ytalafklnnohlgaa.Cod
open Oct hiding agg39 size39
set_option linter.unusedVariables false

def catB (l : List Ev) : List Int := l.flatMap encB
def AllOk (l : List Ev) : Prop := ∀ e ∈ l, ∃ y, encP e = some y
theorem rowGo_ok : ∀ (l : List Ev) (i : Nat) (out : List Int), AllOk l → rowGo l i out = (out ++ catB l, 0, 0)
  | [], i, out, _ => by simp [rowGo, catB]
  | e :: l, i, out, h => by
    obtain ⟨y, hy⟩ := h e (by simp)
    simp only [rowGo, hy]
    rw [rowGo_ok l (i + 1) (out ++ y) (fun q hq => h q (by simp [hq]))]
    simp [catB, (encB_of hy).1]
theorem rowP_ok {l : List Ev} (h : AllOk l) (hl : l.length ≤ 2000) : rowP l = (beB 2 l.length ++ catB l, 0, 0) := by
  unfold rowP
  rw [if_neg (by omega), rowGo_ok l 0 _ h]
theorem evGo_cat : ∀ (l : List Ev) (r : List Int), AllOk l → ∃ l', evGo l.length (catB l ++ r) = (l', .good r zeroEv) ∧ l'.length = l.length ∧ ∀ (i : Nat) (a b : Ev), l'[i]? = some a → l[i]? = some b → Agree a b
  | [], r, _ => ⟨[], by simp [evGo, catB], rfl, fun i a b h => by simp at h⟩
  | e :: l, r, h => by
    obtain ⟨y, hy⟩ := h e (by simp)
    obtain ⟨_, _, e', h3, h4⟩ := encP_some hy
    obtain ⟨l', g1, g2, g3⟩ := evGo_cat l r (fun q hq => h q (by simp [hq]))
    refine ⟨e' :: l', ?_, by simp [g2], fun i a b ha hb => ?_⟩
    · rw [show catB (e :: l) ++ r = y ++ (catB l ++ r) by simp [catB, (encB_of hy).1]]
      simp only [List.length_cons, evGo, rdE_more h3, g1]
    · cases i with
      | zero => simp at ha hb; subst ha hb; exact h4
      | succ i => exact g3 i a b (by simpa using ha) (by simpa using hb)
theorem take_beB (n : Int) (r : List Int) : (beB 2 n ++ r).take 2 = beB 2 n ∧ (beB 2 n ++ r).drop 2 = r := ⟨List.take_left' (beB_len 2 n), List.drop_left' (beB_len 2 n)⟩
theorem evsP_cat {l : List Ev} (h : AllOk l) (hl : l.length ≤ 2000) : ∃ l', evsP (beB 2 l.length ++ catB l) = (l', (l.length : Int), 0) ∧ l'.length = l.length ∧ ∀ (i : Nat) (a b : Ev), l'[i]? = some a → l[i]? = some b → Agree a b := by
  obtain ⟨l', g1, g2, g3⟩ := evGo_cat l [] h
  rw [List.append_nil] at g1
  obtain ⟨t1, t2⟩ := take_beB l.length (catB l)
  have h256 : (256 : Int) ^ 2 = 65536 := by decide
  have hbe : beU (beB 2 (l.length : Int)) = l.length := beU_beB 2 _ (by decide) (by omega) (by omega)
  have hlen : ¬ (beB 2 (l.length : Int) ++ catB l).length < 2 := by rw [List.length_append, beB_len]; omega
  have hG : evG (beB 2 l.length ++ catB l) = (l', .good [] zeroEv) := by
    unfold evG
    rw [if_neg hlen, t1, t2, hbe, Int.toNat_natCast, g1]
  refine ⟨l', ?_, g2, g3⟩
  unfold evsP
  rw [t1, hbe, if_neg (by rintro ⟨_, h⟩; omega), hG]
  simp only [endE, if_true, g2]
theorem evGo_back : ∀ (n : Nat) (r s : List Int) (l : List Ev) (z : Ev), Byt r → evGo n r = (l, .good s z) → r = catB l ++ s ∧ l.length = n ∧ AllOk l
  | 0, r, s, l, z, _, h => by
    simp only [evGo, Prod.mk.injEq, Res.good.injEq] at h
    obtain ⟨rfl, rfl, _⟩ := h
    exact ⟨rfl, rfl, fun _ h => by cases h⟩
  | k + 1, r, s, l, z, hb, h => by
    simp only [evGo] at h
    cases hr : rdE r with
    | short => rw [hr] at h; simp at h
    | code => rw [hr] at h; simp at h
    | good r' e =>
      rw [hr] at h
      obtain ⟨o1, o2, o3⟩ := rdE_own hb hr
      simp only [Prod.mk.injEq] at h
      obtain ⟨rfl, h2⟩ := h
      have hb' : Byt r' := fun u hu => hb u (by rw [o1]; simp [hu])
      obtain ⟨g1, g2, g3⟩ := evGo_back k r' s (evGo k r').1 z hb' (Prod.ext rfl h2)
      refine ⟨?_, by simp [g2], fun q hq => ?_⟩
      · rw [show catB (e :: (evGo k r').1) ++ s = encB e ++ (catB (evGo k r').1 ++ s) by simp [catB], (encB_of o2).1, ← g1]; exact o1
      · rcases List.mem_cons.1 hq with rfl | hq
        · exact ⟨_, o2⟩
        · exact g3 q hq
/-- A row that was read is written as it was. -/
theorem evsP_back {b : List Int} (hb : Byt b) (h : (evsP b).2.2 = 0) : rowP (evsP b).1 = (b, 0, 0) ∧ (evsP b).2.1 = ((evsP b).1.length : Int) ∧ (evsP b).1.length ≤ 2000 := by
  unfold evsP at h ⊢
  by_cases h2 : 2 ≤ b.length ∧ 2000 < beU (b.take 2)
  · rw [if_pos h2] at h; cases h
  · rw [if_neg h2] at h ⊢
    dsimp only at h ⊢
    rw [if_pos h]
    have hl : 2 ≤ b.length := by
      rcases Nat.lt_or_ge b.length 2 with h' | h'
      · unfold evG at h; rw [if_pos h'] at h; cases h
      · exact h'
    have hlen : (b.take 2).length = 2 := by simp; omega
    have hr := beU_rg 2 (b.take 2) hlen (by decide) (byt_take hb 2)
    have hG : evG b = evGo (beU (b.take 2)).toNat (b.drop 2) := by unfold evG; rw [if_neg (by omega)]
    cases hg : (evG b).2 with
    | short => rw [hg] at h; cases h
    | code => rw [hg] at h; cases h
    | good s z =>
      rw [hg] at h
      cases s with
      | cons _ _ => cases h
      | nil =>
        obtain ⟨g1, g2, g3⟩ := evGo_back _ _ _ (evG b).1 z (byt_drop hb 2) (by rw [← hG, ← hg])
        rw [List.append_nil] at g1
        have hle : (evG b).1.length ≤ 2000 := by
          rw [g2]
          have : ¬ 2000 < beU (b.take 2) := fun hh => h2 ⟨hl, hh⟩
          omega
        refine ⟨?_, rfl, hle⟩
        rw [rowP_ok g3 hle, g2, ← g1, Int.toNat_of_nonneg hr.1]
        have hbb := beB_beU (b.take 2) (byt_take hb 2) (by omega)
        rw [hlen] at hbb
        rw [hbb, List.take_append_drop]
theorem evsP_err {b : List Int} (h : (evsP b).2.2 ≠ 0) : (evsP b).1 = [] ∧ 0 ≤ (evsP b).2.1 := by
  unfold evsP at h ⊢
  by_cases h2 : 2 ≤ b.length ∧ 2000 < beU (b.take 2)
  · rw [if_pos h2]; exact ⟨rfl, Int.le_refl _⟩
  · rw [if_neg h2] at h ⊢
    dsimp only at h ⊢
    rw [if_neg h]; exact ⟨rfl, by omega⟩
end Go.Proofs.Ytalafklnnohlgaa.Cod
