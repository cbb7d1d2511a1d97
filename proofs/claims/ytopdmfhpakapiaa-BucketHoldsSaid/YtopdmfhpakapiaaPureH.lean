/- BucketHolds: what the functions it calls answer, as plain numbers. No condition of its own. -/
import Derived.Test.YtopdmfhpakapiaaPChgx4
namespace Go.Proofs.Ytopdmfhpakapiaa.PChg
open Go.RowKit Go.Proofs.YtopdmfhpakapiaaW.PrintWords Go.Proofs.YtopdmfhpakapiaaW.PrintLast Go.Proofs.YtopdmfhpakapiaaW.PrintMore

theorem wrap_in {x : Int} (h0 : -9223372036854775808 ≤ x) (h1 : x ≤ 9223372036854775807) : wrap64 x = x := by unfold wrap64; omega

theorem mul_bd {a b A B : Int} (h0 : -A ≤ a) (h1 : a ≤ A) (h2 : 0 ≤ b) (h3 : b ≤ B) (hA : 0 ≤ A) : -(A * B) ≤ a * b ∧ a * b ≤ A * B := by
  have e1 : a * b ≤ A * b := Int.mul_le_mul_of_nonneg_right h1 h2
  have e2 : -A * b ≤ a * b := Int.mul_le_mul_of_nonneg_right h0 h2
  have e3 : A * b ≤ A * B := Int.mul_le_mul_of_nonneg_left h3 hA
  rw [Int.neg_mul] at e2
  omega

def okB (b : S50) : Bool := decide (b.f1 ≤ b.f0) && decide (b.f0 ≤ b.f2)

theorem within_l0 (l : List S50) (hl : l.length < 1000) : ∀ (d k i : Nat), i + d = l.length → d < k → bucket_within.l0 k l (l.length : Int) (i : Int) = some ((l.drop i).all okB) := by
  intro d
  induction d with
  | zero =>
    intro k i h hk
    obtain ⟨k, rfl⟩ : ∃ m, k = m + 1 := ⟨k - 1, by omega⟩
    simp only [bucket_within.l0]
    rw [if_neg (by omega), List.drop_of_length_le (by omega)]; rfl
  | succ d ih =>
    intro k i h hk
    obtain ⟨k, rfl⟩ : ∃ m, k = m + 1 := ⟨k - 1, by omega⟩
    have hi : i < l.length := by omega
    have e : rd_T50 l (i : Int) = l[i] := by unfold rd_T50; simp [List.getD, hi]
    have ed : l.drop i = l[i] :: l.drop (i + 1) := List.drop_eq_getElem_cons hi
    have ew : wrap64 ((i : Int) + 1) = ((i + 1 : Nat) : Int) := by rw [wrap_in (by omega) (by omega)]; omega
    simp only [bucket_within.l0]
    rw [if_pos (by omega), if_pos (by omega), if_pos (by omega), e, ed, List.all_cons, ew, ih k (i + 1) (by omega) (by omega)]
    by_cases h1 : l[i].f0 < l[i].f1
    · rw [if_pos h1]; have : okB l[i] = false := by unfold okB; rw [decide_eq_false (by omega)]; rfl
      rw [this]; rfl
    · rw [if_neg h1]
      by_cases h2 : l[i].f0 > l[i].f2
      · rw [if_pos h2]; have : okB l[i] = false := by unfold okB; rw [decide_eq_false (p := l[i].f0 ≤ l[i].f2) (by omega), Bool.and_false]
        rw [this]; rfl
      · rw [if_neg h2]; have : okB l[i] = true := by unfold okB; rw [decide_eq_true (by omega), decide_eq_true (by omega)]; rfl
        rw [this]; rfl

theorem within_f (l : List S50) (k : Nat) (hl : l.length < 1000) (hk : l.length < k) : bucket_within.f k l = some (l.all okB) := by
  have := within_l0 l hl l.length k 0 (by omega) hk
  unfold bucket_within.f; simpa using this

def Rt (c t : Int) : Prop := 0 ≤ c ∧ c ≤ 800 ∧ -8000000000 ≤ t ∧ t ≤ c * 100000000 ∧ (c = 0 → t = 0)
instance (c t : Int) : Decidable (Rt c t) := by unfold Rt; infer_instance

theorem Check_eq (c t : Int) (k : Nat) (hk : 9 ≤ k) : bucket_Check.f k c t = some (if Rt c t then 0 else 210) := by
  unfold bucket_Check.f bucket_percent.f bucket_depth.f
  simp only [Option.bind_some]
  rw [within_f _ k (by simp) (by simp; omega), within_f _ k (by simp) (by simp; omega)]
  simp only [Option.bind_some, List.all_cons, List.all_nil, Bool.and_true, okB]
  by_cases h1 : 0 ≤ c ∧ c ≤ 800
  · obtain ⟨h1, h1'⟩ := h1
    rw [if_pos (by simp [h1, h1']), wrap_in (by omega) (by omega)]
    by_cases h2 : -8000000000 ≤ t ∧ t ≤ c * 100000000
    · obtain ⟨h2, h2'⟩ := h2
      rw [if_pos (by simp [h2, h2'])]
      by_cases h3 : c = 0
      · rw [if_pos h3]
        by_cases h4 : t = 0
        · rw [if_neg (by simp [h3, h4]), if_pos (by unfold Rt; omega)]
        · rw [if_pos (by simp [h4]), if_neg (by unfold Rt; omega)]
      · rw [if_neg h3, if_pos (by unfold Rt; omega)]
    · rw [if_neg (by simp; omega), if_neg (by unfold Rt; omega)]
  · rw [if_neg (by simp; omega), if_neg (by unfold Rt; omega)]

theorem Check_yes {c t : Int} (h : Rt c t) {k : Nat} (hk : 9 ≤ k) : bucket_Check.f k c t = some 0 := by rw [Check_eq c t k hk, if_pos h]
theorem Check_no {c t : Int} (h : ¬ Rt c t) {k : Nat} (hk : 9 ≤ k) : bucket_Check.f k c t = some 210 := by rw [Check_eq c t k hk, if_neg h]

def dryB (c t : Int) : Bool := decide (Rt c t ∧ 0 < c ∧ t ≤ 0)
theorem Dry_eq (c t : Int) (k : Nat) (hk : 9 ≤ k) : bucket_Dry.f k c t = some (dryB c t) := by
  unfold bucket_Dry.f dryB
  rw [Check_eq c t k hk]
  simp only [Option.bind_some]
  by_cases h : Rt c t
  · rw [if_pos h, if_pos rfl]
    by_cases h1 : c > 0
    · rw [if_pos h1]; simp [h, show 0 < c from h1]
    · rw [if_neg h1, decide_eq_false (by omega)]
  · rw [if_neg h, if_neg (by decide), decide_eq_false (by simp [h])]

def PassR (c t dt n : Int) : Int × Int × Int :=
  if Rt c t then
    if 0 ≤ dt ∧ dt ≤ 10000000 ∧ 0 ≤ n ∧ n ≤ 8 then
      if 0 < c ∧ t ≤ 0 ∧ 0 < n ∧ 0 < dt then (0, 0, 211)
      else if c = 0 then (c, t, 0)
      else (c, mn (t + (c - 100 * n) * dt) (c * 100000000), 0)
    else (0, 0, 2)
  else (0, 0, 210)

theorem Pass_eq (c t dt n : Int) (k : Nat) (hk : 9 ≤ k) : bucket_Pass.f k c t dt n = some (PassR c t dt n) := by
  obtain ⟨k, rfl⟩ : ∃ m, k = m + 1 := ⟨k - 1, by omega⟩
  unfold bucket_Pass.f PassR
  rw [Check_eq c t _ hk, Dry_eq c t _ hk]
  simp only [Option.bind_some]
  by_cases h : Rt c t
  · rw [if_pos h, if_pos h, if_pos rfl, within_f _ _ (by simp) (by simp; omega)]
    simp only [Option.bind_some, List.all_cons, List.all_nil, Bool.and_true, okB]
    by_cases h1 : 0 ≤ dt ∧ dt ≤ 10000000 ∧ 0 ≤ n ∧ n ≤ 8
    · rw [if_pos h1, if_pos (by obtain ⟨a, b, c, d⟩ := h1; simp [a, b, c, d])]
      obtain ⟨d0, d1, n0, n1⟩ := h1
      obtain ⟨c0, c1, t0, t1, hz⟩ := h
      have hb := mul_bd (a := c - 100 * n) (b := dt) (A := 800) (B := 10000000) (by omega) (by omega) d0 d1 (by omega)
      have key : (if c = 0 then some (c, t, (0 : Int)) else ((bucket_tokens_more.f t (wrap64 (c - (wrap64 (100 * n)))) dt).bind fun t127 => ((bucket_depth.f c).bind fun t128 => ((bucket_tokens_upto.f t127 t128).bind fun t129 => (some (c, t129, 0)))))) = some (if c = 0 then (c, t, 0) else (c, mn (t + (c - 100 * n) * dt) (c * 100000000), 0)) := by
        by_cases hc : c = 0
        · rw [if_pos hc, if_pos hc]
        · rw [if_neg hc, if_neg hc]
          unfold bucket_tokens_more.f bucket_depth.f bucket_tokens_upto.f
          simp only [Option.bind_some]
          rw [wrap_in (x := 100 * n) (by omega) (by omega), wrap_in (x := c - 100 * n) (by omega) (by omega), wrap_in (x := (c - 100 * n) * dt) (by omega) (by omega), wrap_in (x := t + _) (by omega) (by omega), wrap_in (x := c * 100000000) (by omega) (by omega)]
      have hR : Rt c t := ⟨c0, c1, t0, t1, hz⟩
      by_cases hd : dryB c t = true
      · rw [if_pos hd]
        obtain ⟨_, g1, g2⟩ := of_decide_eq_true hd
        by_cases hn : n > 0
        · rw [if_pos hn]
          by_cases hdt : dt > 0
          · rw [if_pos ⟨g1, g2, hn, hdt⟩]; simp only [bucket_Pass.j0]; rw [if_pos (by simp [hdt])]
          · rw [if_neg (by omega)]; simp only [bucket_Pass.j0]; rw [if_neg (by simpa using hdt), key]
        · rw [if_neg hn, if_neg (by omega)]; simp only [bucket_Pass.j0]; rw [if_neg (by simp), key]
      · rw [if_neg hd]
        have hd' : ¬ (0 < c ∧ t ≤ 0) := fun x => hd (decide_eq_true ⟨hR, x⟩)
        rw [if_neg (by omega)]; simp only [bucket_Pass.j0]; rw [if_neg (by simp), key]
    · rw [if_neg h1, if_neg (by simp; omega)]
  · rw [if_neg h, if_neg h, if_neg (by decide)]

theorem New_eq (n : Int) (k : Nat) (hk : 9 ≤ k) : bucket_New.f k n = some (if 0 ≤ n ∧ n ≤ 800 then (n, n * 100000000, 0) else (0, 0, 2)) := by
  unfold bucket_New.f bucket_percent.f bucket_depth.f
  simp only [Option.bind_some]
  rw [within_f _ k (by simp) (by simp; omega)]
  simp only [Option.bind_some, List.all_cons, List.all_nil, Bool.and_true, okB]
  by_cases h1 : 0 ≤ n ∧ n ≤ 800
  · obtain ⟨a, b⟩ := h1
    rw [if_pos (by simp [a, b]), if_pos ⟨a, b⟩, wrap_in (by omega) (by omega)]
  · rw [if_neg (by simp; omega), if_neg h1]

theorem wakes_eq (k : Nat) (hk : 9 ≤ k) : mainsheetlaw11_wakes.f k = some true := by
  unfold mainsheetlaw11_wakes.f
  rw [New_eq 50 k hk, if_pos (by omega)]
  simp only [Option.bind_some]
  rw [Pass_eq _ _ _ _ k hk, Dry_eq _ _ k hk]
  simp only [Option.bind_some]
  have e : PassR 50 (50 * 100000000) 10000000 1 = (50, 4500000000, 0) := by decide +kernel
  have e2 : dryB 1 0 = true := by decide +kernel
  rw [e, e2]; rfl

def BoundR (p dt gap n : Int) : Int × Int :=
  if (0 ≤ p ∧ p ≤ 800) ∧ (1 ≤ p ∧ p ≤ 800) ∧ (0 ≤ dt ∧ dt ≤ 1125899906842624) ∧ (0 ≤ gap ∧ gap ≤ 10000000) ∧ (0 ≤ n ∧ n ≤ 8) then (p * 100000000 + p * dt + 100 * n * gap, 0) else (0, 2)

theorem bound_bd {p dt gap n : Int} (h : 1 ≤ p ∧ p ≤ 800) (hd : 0 ≤ dt ∧ dt ≤ 1125899906842624) (hg : 0 ≤ gap ∧ gap ≤ 10000000) (hn : 0 ≤ n ∧ n ≤ 8) :
    0 ≤ p * dt ∧ p * dt ≤ 900719925474099200 ∧ 0 ≤ 100 * n * gap ∧ 100 * n * gap ≤ 8000000000 := by
  have a := mul_bd (a := p) (b := dt) (A := 800) (B := 1125899906842624) (by omega) (by omega) hd.1 hd.2 (by omega)
  have b := mul_bd (a := 100 * n) (b := gap) (A := 800) (B := 10000000) (by omega) (by omega) hg.1 hg.2 (by omega)
  have c : 0 ≤ p * dt := Int.mul_nonneg (by omega) (by omega)
  have d : 0 ≤ 100 * n * gap := Int.mul_nonneg (by omega) (by omega)
  omega

theorem Bound_eq (p dt gap n : Int) (k : Nat) (hk : 9 ≤ k) : bucket_Bound.f k p dt gap n = some (BoundR p dt gap n) := by
  unfold bucket_Bound.f bucket_percent.f bucket_depth.f bucket_tokens_more.f BoundR
  simp only [Option.bind_some]
  rw [within_f _ k (by simp) (by simp; omega)]
  simp only [Option.bind_some, List.all_cons, List.all_nil, Bool.and_true, okB]
  by_cases h : (0 ≤ p ∧ p ≤ 800) ∧ (1 ≤ p ∧ p ≤ 800) ∧ (0 ≤ dt ∧ dt ≤ 1125899906842624) ∧ (0 ≤ gap ∧ gap ≤ 10000000) ∧ (0 ≤ n ∧ n ≤ 8)
  · rw [if_pos h]
    obtain ⟨h1, h2, h3, h4, h5⟩ := h
    have hb := bound_bd h2 h3 h4 h5
    rw [if_pos (by simp [h1, h2, h3, h4, h5])]
    rw [wrap_in (x := p * 100000000) (by omega) (by omega), wrap_in (x := p * dt) (by omega) (by omega), wrap_in (x := p * 100000000 + _) (by omega) (by omega), wrap_in (x := 100 * n) (by omega) (by omega), wrap_in (x := 100 * n * gap) (by omega) (by omega), wrap_in (by omega) (by omega)]
  · rw [if_neg h, if_neg (by simp only [Bool.and_eq_true, decide_eq_true_eq]; exact h)]
end Go.Proofs.Ytopdmfhpakapiaa.PChg
