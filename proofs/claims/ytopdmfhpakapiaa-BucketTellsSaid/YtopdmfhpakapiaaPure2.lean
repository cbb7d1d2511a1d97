/- Wait and Change in plain numbers, and that the statements BucketWaits and BucketSplits come to true. Conditions: the numbers fit int64. -/
import Derived.Test.YtopdmfhpakapiaaPAllx7
import Derived.Test.YtopdmfhpakapiaaPure1
namespace Go.Proofs.Ytopdmfhpakapiaa.PAll
open Go.RowKit Go.Proofs.YtopdmfhpakapiaaW.PrintWords Go.Proofs.YtopdmfhpakapiaaW.PrintLast Go.Proofs.YtopdmfhpakapiaaW.PrintMore

def WaitR (c t : Int) : Int × Int :=
  if Rt c t then
    if 0 < c ∧ t ≤ 0 then (-t / c + 1, 0) else (0, 0)
  else (0, 210)

theorem div_bd {c t : Int} (hc : 0 < c) (h0 : t ≤ 0) (h1 : -8000000000 ≤ t) : 0 ≤ -t / c ∧ -t / c ≤ 8000000000 ∧ t + c * (-t / c) ≤ 0 ∧ 0 < t + c * (-t / c + 1) := by
  have a1 := Int.ediv_nonneg (a := -t) (b := c) (by omega) (by omega)
  have a2 := Int.ediv_mul_le (-t) (b := c) (by omega)
  have a3 := Int.lt_ediv_add_one_mul_self (-t) hc
  have a4 : -t / c ≤ -t := Int.ediv_le_self _ (by omega)
  rw [Int.mul_comm] at a2 a3
  exact ⟨a1, by omega, by omega, by omega⟩

theorem Wait_eq (c t : Int) (k : Nat) (hk : 9 ≤ k) : bucket_Wait.f k c t = some (WaitR c t) := by
  unfold bucket_Wait.f WaitR
  rw [Check_eq c t k hk, Dry_eq c t k hk]
  simp only [Option.bind_some]
  by_cases h : Rt c t
  · rw [if_pos h, if_pos h, if_pos rfl]
    obtain ⟨c0, c1, t0, t1, hz⟩ := h
    by_cases hd : 0 < c ∧ t ≤ 0
    · obtain ⟨d1, d2⟩ := hd
      have hb := div_bd d1 d2 t0
      rw [if_pos (show dryB c t = true from decide_eq_true ⟨⟨c0, c1, t0, t1, hz⟩, d1, d2⟩), if_pos (show 0 < c ∧ t ≤ 0 from ⟨d1, d2⟩), if_neg (show ¬ c = 0 by omega), wrap_in (x := -t) (by omega) (by omega), Int.tdiv_eq_ediv_of_nonneg (by omega), wrap_in (x := -t / c) (by omega) (by omega), wrap_in (by omega) (by omega)]
    · rw [if_neg hd, if_neg (fun x => hd (of_decide_eq_true x).2)]
  · rw [if_neg h, if_neg h, if_neg (by decide)]

theorem wait_round (k : Nat) (hk : 9 ≤ k) (c t : Int) (hr : Rt c t) (hc : 0 < c) (left : Int) (h0 : t + c * left ≤ 0) (h1 : 0 < t + c * (left + 1)) (hl : 0 ≤ left) :
    ((bucket_Pass.f k c t 1 0).bind fun bt212 => (if bt212.2.2 = 0 then (if left > 0 then (some true) else ((bucket_Dry.f k bt212.1 bt212.2.1).bind fun t216 => (some (!t216)))) else (some false))) = some true := by
  obtain ⟨c0, c1, t0, t1, hz⟩ := id hr
  have hle : t ≤ 0 := by
    have := Int.mul_nonneg (a := c) (b := left) (by omega) hl
    omega
  have e : PassR c t 1 0 = (c, t + c, 0) := by
    unfold PassR
    rw [if_pos hr, if_pos (by omega), if_neg (by omega), if_neg (by omega)]
    congr 2; unfold mn; omega
  rw [Pass_eq _ _ _ _ _ hk, e]
  simp only [Option.bind_some, if_true]
  by_cases hp : left > 0
  · rw [if_pos hp]
  · obtain rfl : left = 0 := by omega
    have h1' : 0 < t + c := by have e1 : c * (0 + 1) = c := by omega
                               omega
    rw [if_neg hp, Dry_eq _ _ _ hk]
    simp only [Option.bind_some]
    have : dryB c (t + c) = false := decide_eq_false (by omega)
    rw [this]; rfl

theorem waits_l0 (d : Nat) : ∀ (k : Nat) (left i c t : Int), Rt c t → 0 < c → 0 ≤ left → left ≤ 8000000000 → t + c * left ≤ 0 → 0 < t + c * (left + 1) → 0 ≤ i → i + d = 1000 → d + 10 < k →
    mainsheetlaw11_BucketWaits.l0 k left i c t = some true := by
  induction d with
  | zero =>
    intro k left i c t hr hc hl hl1 h0 h1 hi0 hi hk
    obtain ⟨k, rfl⟩ : ∃ m, k = m + 1 := ⟨k - 1, by omega⟩
    simp only [mainsheetlaw11_BucketWaits.l0]
    rw [if_neg (by omega)]
    exact wait_round k (by omega) c t hr hc left h0 h1 hl
  | succ d ih =>
    intro k left i c t hr hc hl hl1 h0 h1 hi0 hi hk
    obtain ⟨k, rfl⟩ : ∃ m, k = m + 1 := ⟨k - 1, by omega⟩
    simp only [mainsheetlaw11_BucketWaits.l0]
    rw [if_pos (by omega)]
    by_cases hz : left = 0
    · rw [if_pos hz]; exact wait_round k (by omega) c t hr hc left h0 h1 hl
    · rw [if_neg hz]
      obtain ⟨c0, c1, t0, t1, hzz⟩ := id hr
      obtain ⟨dt, hdt⟩ : ∃ dt, dt = mn left 10000000 := ⟨_, rfl⟩
      have hd : 0 < dt ∧ dt ≤ left ∧ dt ≤ 10000000 := by rw [hdt]; unfold mn; omega
      rw [← hdt]
      have m1 : c * left = c * dt + c * (left - dt) := by rw [← Int.mul_add]; congr 1; omega
      have m2 : c * (left + 1) = c * dt + c * (left - dt + 1) := by rw [← Int.mul_add]; congr 1; omega
      have m3 : 0 ≤ c * dt := Int.mul_nonneg (by omega) (by omega)
      have m4 : 0 ≤ c * (left - dt) := Int.mul_nonneg (by omega) (by omega)
      have e : PassR c t dt 0 = (c, t + c * dt, 0) := by
        unfold PassR
        rw [if_pos hr, if_pos (by omega), if_neg (by omega), if_neg (by omega)]
        have : (c - 100 * 0) = c := by omega
        rw [this]; congr 2; unfold mn; omega
      have hr' : Rt c (t + c * dt) := ⟨c0, c1, by omega, by omega, by omega⟩
      rw [Pass_eq _ _ _ _ _ (by omega), e]
      simp only [Option.bind_some, if_true]
      rw [Dry_eq _ _ _ (by omega)]
      simp only [Option.bind_some]
      rw [if_pos (show dryB c (t + c * dt) = true from decide_eq_true ⟨hr', hc, by omega⟩), wrap_in (x := left - dt) (by omega) (by omega), wrap_in (x := i + 1) (by omega) (by omega)]
      exact ih k (left - dt) (i + 1) c (t + c * dt) hr' hc (by omega) (by omega) (by omega) (by omega) (by omega) (by omega) (by omega)

theorem Waits_eq (c t : Int) : ∃ k, mainsheetlaw11_BucketWaits.f k c t = some true := by
  refine ⟨1013, ?_⟩
  unfold mainsheetlaw11_BucketWaits.f
  rw [wakes_eq _ (by omega), Wait_eq _ _ _ (by omega)]
  simp only [Option.bind_some, if_true]
  unfold WaitR
  by_cases h : Rt c t
  · rw [if_pos h]
    by_cases hd : 0 < c ∧ t ≤ 0
    · obtain ⟨c0, c1, t0, t1, hz⟩ := id h
      have hb := div_bd hd.1 hd.2 t0
      rw [if_pos hd]
      simp only [if_true, mainsheetlaw11_BucketWaits.j0]
      rw [if_neg (by simp; omega), wrap_in (by omega) (by omega)]
      have e : -t / c + 1 - 1 = -t / c := by omega
      rw [e]
      exact waits_l0 1000 1012 _ 0 c t h hd.1 (by omega) (by omega) (by omega) (by omega) (by omega) (by omega) (by omega)
    · rw [if_neg hd]
      simp only [if_true, mainsheetlaw11_BucketWaits.j0]
      rw [if_pos (by decide), Dry_eq _ _ _ (by omega)]
      simp only [Option.bind_some]
      have : dryB c t = false := decide_eq_false (by omega)
      rw [this]; rfl
  · rw [if_neg h]
    simp only [mainsheetlaw11_BucketWaits.j0]
    rw [if_neg (by decide), if_pos trivial, Dry_eq _ _ _ (by omega)]
    simp only [Option.bind_some]
    have : dryB c t = false := decide_eq_false (fun x => h x.1)
    rw [this]; rfl

def ChangeR (c t p : Int) : Int × Int × Int :=
  if Rt c t then
    if 0 ≤ p ∧ p ≤ 800 then
      if 0 < p ∧ 0 < c then (p, mn t (p * 100000000), 0) else (p, p * 100000000, 0)
    else (0, 0, 2)
  else (0, 0, 210)

theorem Change_eq (c t p : Int) (k : Nat) (hk : 10 ≤ k) : bucket_Change.f k c t p = some (ChangeR c t p) := by
  obtain ⟨k, rfl⟩ : ∃ m, k = m + 1 := ⟨k - 1, by omega⟩
  unfold bucket_Change.f ChangeR
  rw [Check_eq c t _ (by omega), New_eq p _ (by omega)]
  simp only [Option.bind_some]
  by_cases h : Rt c t
  · rw [if_pos h, if_pos h, if_pos rfl]
    by_cases hp : 0 ≤ p ∧ p ≤ 800
    · rw [if_pos hp, if_pos hp, if_pos rfl]
      by_cases h0 : p > 0
      · rw [if_pos h0]
        simp only [bucket_Change.j0]
        by_cases h1 : c > 0
        · rw [if_pos (decide_eq_true h1), if_pos (show 0 < p ∧ 0 < c from ⟨h0, h1⟩)]
          unfold bucket_depth.f bucket_tokens_upto.f
          simp only [Option.bind_some]
          rw [wrap_in (by omega) (by omega)]
        · rw [if_neg (by simpa using h1), if_neg (show ¬ (0 < p ∧ 0 < c) by omega)]
      · rw [if_neg h0, if_neg (show ¬ (0 < p ∧ 0 < c) by omega)]
        simp only [bucket_Change.j0]
        rw [if_neg Bool.false_ne_true]
    · rw [if_neg hp, if_neg hp, if_neg (by decide)]
      simp only [bucket_Change.j0]
      rw [if_neg Bool.false_ne_true]
  · rw [if_neg h, if_neg h, if_neg (by decide)]

theorem splits_j1 (k : Nat) (hk : 11 ≤ k) (p c t : Int) (_hr : Rt c t) : mainsheetlaw11_BucketSplits.j1 k p c t = some true := by
  obtain ⟨k, rfl⟩ : ∃ m, k = m + 1 := ⟨k - 1, by omega⟩
  simp only [mainsheetlaw11_BucketSplits.j1]
  rw [Change_eq _ _ _ _ (by omega)]
  simp only [Option.bind_some]
  unfold ChangeR
  by_cases h : Rt c t
  · rw [if_pos h]
    obtain ⟨c0, c1, t0, t1, hz⟩ := id h
    by_cases hp : 0 ≤ p ∧ p ≤ 800
    · rw [if_pos hp]
      by_cases hpc : 0 < p ∧ 0 < c
      · rw [if_pos hpc]
        simp only [if_true]
        rw [if_neg (show ¬ p = 0 by omega), if_neg (show ¬ c = 0 by omega), Change_eq _ _ _ _ (by omega)]
        simp only [Option.bind_some]
        obtain ⟨m, hm⟩ : ∃ m, m = mn t (p * 100000000) := ⟨_, rfl⟩
        have hm' : m ≤ t ∧ m ≤ p * 100000000 ∧ (m = t ∨ m = p * 100000000) := by rw [hm]; unfold mn; omega
        rw [← hm]
        have e : ChangeR p m c = (c, mn m (c * 100000000), 0) := by
          unfold ChangeR
          rw [if_pos (show Rt p m from ⟨by omega, by omega, by omega, by omega, by omega⟩), if_pos (show 0 ≤ c ∧ c ≤ 800 by omega), if_pos (show 0 < c ∧ 0 < p by omega)]
        rw [e]
        simp only [if_true]
        rw [if_pos (show mn m (c * 100000000) ≤ t by unfold mn; omega)]
        by_cases hq : p < c
        · rw [if_pos hq]
        · rw [if_neg hq]
          have : mn m (c * 100000000) = t := by unfold mn; omega
          simp [this]
      · rw [if_neg hpc]
        simp only [if_true]
        by_cases hp0 : p = 0
        · rw [if_pos hp0]
        · rw [if_neg hp0, if_pos (show c = 0 by omega)]
    · rw [if_neg hp]; rfl
  · rw [if_neg h]; rfl

theorem PassR_err (c t dt n : Int) (h : ¬ (PassR c t dt n).2.2 = 0) : (PassR c t dt n).1 = 0 ∧ (PassR c t dt n).2.1 = 0 := by
  revert h; unfold PassR
  split
  · split
    · split
      · intro _; exact ⟨rfl, rfl⟩
      · split <;> intro h <;> exact absurd rfl h
    · intro _; exact ⟨rfl, rfl⟩
  · intro _; exact ⟨rfl, rfl⟩

/-- What a Pass without an error says. -/
theorem PassR_ok (c t dt n : Int) (h : (PassR c t dt n).2.2 = 0) : Rt c t ∧ 0 ≤ dt ∧ dt ≤ 10000000 ∧ 0 ≤ n ∧ n ≤ 8 ∧ ¬ (0 < c ∧ t ≤ 0 ∧ 0 < n ∧ 0 < dt) ∧ (PassR c t dt n).1 = c ∧
    (PassR c t dt n).2.1 = if c = 0 then t else mn (t + (c - 100 * n) * dt) (c * 100000000) := by
  revert h; unfold PassR
  by_cases h1 : Rt c t
  · rw [if_pos h1]
    by_cases h2 : 0 ≤ dt ∧ dt ≤ 10000000 ∧ 0 ≤ n ∧ n ≤ 8
    · rw [if_pos h2]
      by_cases h3 : 0 < c ∧ t ≤ 0 ∧ 0 < n ∧ 0 < dt
      · rw [if_pos h3]; intro h; exact absurd h (by decide)
      · rw [if_neg h3]
        by_cases h4 : c = 0
        · rw [if_pos h4, if_pos h4]; intro _; exact ⟨h1, h2.1, h2.2.1, h2.2.2.1, h2.2.2.2, h3, rfl, rfl⟩
        · rw [if_neg h4, if_neg h4]; intro _; exact ⟨h1, h2.1, h2.2.1, h2.2.2.1, h2.2.2.2, h3, rfl, rfl⟩
    · rw [if_neg h2]; intro h; exact absurd h (by decide)
  · rw [if_neg h1]; intro h; exact absurd h (by decide)

theorem pass_two (c t s g n : Int) (h1 : (PassR c t s n).2.2 = 0) (h2 : (PassR (PassR c t s n).1 (PassR c t s n).2.1 g n).2.2 = 0) (hc : c ≤ 100 * n) (hs : s + g ≤ 10000000) :
    PassR c t (s + g) n = PassR (PassR c t s n).1 (PassR c t s n).2.1 g n := by
  obtain ⟨r1, s0, s1, n0, n1, d1, e1, e2⟩ := PassR_ok _ _ _ _ h1
  rw [e1, e2] at h2 ⊢
  obtain ⟨r2, g0, g1, _, _, d2, e3, e4⟩ := PassR_ok _ _ _ _ h2
  obtain ⟨c0, c1, t0, t1, hz⟩ := id r1
  by_cases h0 : c = 0
  · subst h0
    obtain rfl := hz rfl
    unfold PassR
    rw [if_pos r1, if_pos (show 0 ≤ s + g ∧ s + g ≤ 10000000 ∧ 0 ≤ n ∧ n ≤ 8 by omega), if_neg (show ¬ ((0 : Int) < 0 ∧ (0 : Int) ≤ 0 ∧ 0 < n ∧ 0 < s + g) by omega), if_pos rfl, if_pos rfl, if_pos r1, if_pos (show 0 ≤ g ∧ g ≤ 10000000 ∧ 0 ≤ n ∧ n ≤ 8 by omega), if_neg (show ¬ ((0 : Int) < 0 ∧ (0 : Int) ≤ 0 ∧ 0 < n ∧ 0 < g) by omega)]
    rfl
  · rw [if_neg h0] at h2 e3 e4 r2 d2 ⊢
    obtain ⟨q, hq⟩ : ∃ q, q = c - 100 * n := ⟨_, rfl⟩
    rw [← hq] at h2 e3 e4 r2 d2 ⊢
    have p1 : q * s ≤ 0 := Int.mul_nonpos_of_nonpos_of_nonneg (by omega) s0
    have p2 : q * g ≤ 0 := Int.mul_nonpos_of_nonpos_of_nonneg (by omega) g0
    have em : mn (t + q * s) (c * 100000000) = t + q * s := by unfold mn; omega
    rw [em] at h2 e3 e4 r2 d2 ⊢
    have z0 : s = 0 → q * s = 0 := fun h => by rw [h, Int.mul_zero]
    unfold PassR
    rw [if_pos r1, if_pos (by omega), if_neg (by omega), if_neg h0, if_pos r2, if_pos (by omega), if_neg d2, if_neg h0, ← hq, Int.mul_add, Int.add_assoc]

theorem Splits_eq (c t s g n p : Int) (hs : -9223372036854775808 ≤ s ∧ s ≤ 9223372036854775807) (hg : -9223372036854775808 ≤ g ∧ g ≤ 9223372036854775807) : ∃ k, mainsheetlaw11_BucketSplits.f k c t s g n p = some true := by
  refine ⟨20, ?_⟩
  unfold mainsheetlaw11_BucketSplits.f
  rw [wakes_eq _ (by omega), Pass_eq _ _ _ _ _ (by omega)]
  simp only [Option.bind_some, if_true]
  by_cases h1 : (PassR c t s n).2.2 = 0
  · rw [if_pos h1, Pass_eq _ _ _ _ _ (by omega)]
    simp only [Option.bind_some]
    obtain ⟨r1, s0, s1, n0, n1, d1, e1, e2⟩ := PassR_ok _ _ _ _ h1
    by_cases h2 : (PassR (PassR c t s n).1 (PassR c t s n).2.1 g n).2.2 = 0
    · rw [if_pos h2]
      obtain ⟨_, g0, g1, _⟩ := PassR_ok _ _ _ _ h2
      simp only [mainsheetlaw11_BucketSplits.j0]
      rw [wrap_in (x := 100 * n) (by omega) (by omega)]
      by_cases hc : c ≤ 100 * n
      · rw [if_pos (decide_eq_true hc), wrap_in (x := s + g) (by omega) (by omega), Pass_eq _ _ _ _ _ (by omega)]
        simp only [Option.bind_some]
        by_cases hsg : s + g ≤ 10000000
        · rw [if_pos hsg, pass_two c t s g n h1 h2 hc hsg, if_pos h2, if_neg (by simp)]
          exact splits_j1 _ (by omega) p c t r1
        · rw [if_neg hsg]; exact splits_j1 _ (by omega) p c t r1
      · rw [if_neg (by simpa using hc)]; exact splits_j1 _ (by omega) p c t r1
    · rw [if_neg h2]
      simp only [mainsheetlaw11_BucketSplits.j0]
      rw [if_neg Bool.false_ne_true]
      exact splits_j1 _ (by omega) p c t r1
  · rw [if_neg h1]
    obtain ⟨a, b⟩ := PassR_err _ _ _ _ h1
    rw [a, b]; rfl

end Go.Proofs.Ytopdmfhpakapiaa.PAll
