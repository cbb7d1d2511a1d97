/- BucketHolds in plain numbers: what was run in a window is never more than the bound. No condition of its own. -/
import Derived.Test.YtopdmfhpakapiaaHold1
namespace Go.Proofs.Ytopdmfhpakapiaa.Hold
set_option linter.unusedVariables false

def st (C T : Int) (p : Int × Int) : Int := let a := T + (C - 100 * p.2) * p.1; if a < C * 100000000 then a else C * 100000000
def tk (C T : Int) (l : List (Int × Int)) : Int := l.foldl (st C) T
def tmS (l : List (Int × Int)) : Int := l.foldl (fun s p => s + p.1) 0
def ruS (l : List (Int × Int)) : Int := l.foldl (fun s p => s + p.1 * p.2) 0
def gpS (l : List (Int × Int)) : Int := l.foldl (fun s p => mxI s p.1) 0
def moS (l : List (Int × Int)) : Int := l.foldl (fun s p => mxI s p.2) 0
theorem tk_snoc (C T : Int) (l : List (Int × Int)) (p : Int × Int) : tk C T (l ++ [p]) = st C (tk C T l) p := by simp [tk]
theorem tmS_snoc (l : List (Int × Int)) (p : Int × Int) : tmS (l ++ [p]) = tmS l + p.1 := by simp [tmS]
theorem ruS_snoc (l : List (Int × Int)) (p : Int × Int) : ruS (l ++ [p]) = ruS l + p.1 * p.2 := by simp [ruS]
theorem gpS_snoc (l : List (Int × Int)) (p : Int × Int) : gpS (l ++ [p]) = mxI (gpS l) p.1 := by simp [gpS]
theorem moS_snoc (l : List (Int × Int)) (p : Int × Int) : moS (l ++ [p]) = mxI (moS l) p.2 := by simp [moS]

/-- A step that may be: the bounds, and nobody runs while it is dry. -/
def Fit (T : Int) (p : Int × Int) : Prop := 0 ≤ p.1 ∧ p.1 ≤ 10000000 ∧ 0 ≤ p.2 ∧ p.2 ≤ 8 ∧ (T ≤ 0 → p.2 = 0)
/-- What holds behind a window l that began at T ≤ C·10^8. -/
structure Win (C T : Int) (l : List (Int × Int)) : Prop where
  tm0 : 0 ≤ tmS l
  tm1 : tmS l ≤ 10000000 * l.length
  ru0 : 0 ≤ ruS l
  ru1 : ruS l ≤ 80000000 * l.length
  gp0 : 0 ≤ gpS l
  gp1 : gpS l ≤ 10000000
  mo0 : 0 ≤ moS l
  mo1 : moS l ≤ 8
  up : tk C T l ≤ C * 100000000
  sum : 100 * ruS l ≤ T + C * tmS l - tk C T l
  low : ruS l = 0 ∨ -(100 * (moS l * gpS l)) ≤ tk C T l
theorem win_nil {C T : Int} (h : T ≤ C * 100000000) : Win C T [] := by
  refine ⟨?_, ?_, ?_, ?_, ?_, ?_, ?_, ?_, h, ?_, .inl rfl⟩ <;> simp [tmS, ruS, gpS, moS, tk]
theorem win_snoc {C T : Int} {l : List (Int × Int)} {p : Int × Int} (hC : 1 ≤ C ∧ C ≤ 800) (h : Win C T l) (hp : Fit (tk C T l) p) : Win C T (l ++ [p]) := by
  obtain ⟨dt, n⟩ := p
  obtain ⟨p0, p1, p2, p3, p4⟩ := hp
  dsimp only at p0 p1 p2 p3 p4
  have hpr0 : 0 ≤ dt * n := Int.mul_nonneg p0 p2
  have hpr1 : dt * n ≤ 10000000 * 8 := Int.le_trans (Int.mul_le_mul_of_nonneg_right p1 p2) (Int.mul_le_mul_of_nonneg_left p3 (by decide))
  have hCd : 0 ≤ C * dt := Int.mul_nonneg (by omega) p0
  have hst : tk C T (l ++ [(dt, n)]) ≤ tk C T l + C * dt - 100 * (dt * n) ∧ tk C T (l ++ [(dt, n)]) ≤ C * 100000000 ∧ (tk C T (l ++ [(dt, n)]) = C * 100000000 ∨ tk C T (l ++ [(dt, n)]) = tk C T l + C * dt - 100 * (dt * n)) := by
    have e : (C - 100 * n) * dt = C * dt - 100 * (dt * n) := by rw [Int.sub_mul, Int.mul_assoc, Int.mul_comm n dt]
    rw [tk_snoc]
    simp only [st, e]
    split <;> omega
  obtain ⟨s1, s2, s3⟩ := hst
  have hmx : ∀ a b : Int, a ≤ mxI a b ∧ b ≤ mxI a b ∧ (mxI a b = a ∨ mxI a b = b) := fun a b => by unfold mxI; split <;> omega
  have hg := hmx (gpS l) dt
  have hm := hmx (moS l) n
  have hgm0 : 0 ≤ moS l * gpS l := Int.mul_nonneg h.mo0 h.gp0
  have hgm1 : moS l * gpS l ≤ mxI (moS l) n * mxI (gpS l) dt := Int.le_trans (Int.mul_le_mul_of_nonneg_right hm.1 h.gp0) (Int.mul_le_mul_of_nonneg_left hg.1 (by have := h.mo0; omega))
  have hgm2 : n * dt ≤ mxI (moS l) n * mxI (gpS l) dt := Int.le_trans (Int.mul_le_mul_of_nonneg_right hm.2.1 p0) (Int.mul_le_mul_of_nonneg_left hg.2.1 (by have := h.mo0; omega))
  have hcm : n * dt = dt * n := Int.mul_comm _ _
  have hup := h.up
  refine ⟨?_, ?_, ?_, ?_, ?_, ?_, ?_, ?_, s2, ?_, ?_⟩
  · rw [tmS_snoc]; have := h.tm0; dsimp only; omega
  · rw [tmS_snoc, List.length_append]; have := h.tm1; simp only [List.length_cons, List.length_nil]; omega
  · rw [ruS_snoc]; have := h.ru0; dsimp only; omega
  · rw [ruS_snoc, List.length_append]; have := h.ru1; simp only [List.length_cons, List.length_nil]; omega
  · rw [gpS_snoc]; have := h.gp0; dsimp only; omega
  · rw [gpS_snoc]; have := h.gp1; dsimp only; omega
  · rw [moS_snoc]; have := h.mo0; dsimp only; omega
  · rw [moS_snoc]; have := h.mo1; dsimp only; omega
  · rw [ruS_snoc, tmS_snoc]
    have := h.sum
    dsimp only
    rw [Int.mul_add C]
    omega
  · rw [ruS_snoc, moS_snoc, gpS_snoc]
    dsimp only
    rcases Int.lt_or_le 0 (dt * n) with hq | hq
    · right
      have ht : 0 < tk C T l := by
        rcases Int.lt_or_le 0 (tk C T l) with h1 | h1
        · exact h1
        · have := p4 h1; subst this; simp at hq
      rcases s3 with h3 | h3 <;> omega
    · have h0 : dt * n = 0 := by omega
      rcases h.low with h1 | h1
      · left; omega
      · right; rcases s3 with h3 | h3 <;> omega
theorem win_bound {C T : Int} {l : List (Int × Int)} (hC : 1 ≤ C ∧ C ≤ 800) (hT : T ≤ C * 100000000) (h : Win C T l) : 100 * ruS l ≤ C * 100000000 + C * tmS l + 100 * moS l * gpS l := by
  have h0 : 0 ≤ moS l * gpS l := Int.mul_nonneg h.mo0 h.gp0
  have h1 : 0 ≤ C * tmS l := Int.mul_nonneg (by omega) h.tm0
  have h2 := h.sum
  rw [Int.mul_assoc]
  rcases h.low with h3 | h3 <;> omega
end Go.Proofs.Ytopdmfhpakapiaa.Hold
