/- An event out of what an argument reads as. No condition. -/
import Derived.Test.YtalafklnnohlgaaCod13
import Derived.Test.YtalafklnnohlgaaX15
namespace Go.Proofs.Ytalafklnnohlgaa.Cod
open Go.RowKit X
open Oct hiding agg39 size39
set_option linter.unusedVariables false
set_option linter.unusedSimpArgs false

def R64 (x : Int) : Prop := -9223372036854775808 ≤ x ∧ x < 9223372036854775808
/-- The numbers of an event are in their ranges. -/
def wfE (e : Ev) : Prop := (∀ j, R64 (e.n j)) ∧ (∀ j ∈ [13, 14, 24, 25, 26], 0 ≤ e.n j ∧ e.n j < 4294967296) ∧ (e.n 5 = 0 ∨ e.n 5 = 1) ∧ (∀ x ∈ e.nums, R64 x) ∧ (∀ x ∈ e.mem, R64 x)
def cellsOk (a : Ev) (c6 c27 : Nat) : Prop := (a.nums.length ≤ c6 ∧ c6 ≤ maxLen) ∧ (a.mem.length ≤ c27 ∧ c27 ≤ maxLen)
theorem wf_i64 {n : Int} (h : (Lit.int .i64 n).wf = true) : R64 n := by simp [Lit.wf, IntKind.min, IntKind.max, IntKind.bits, IntKind.signed] at h; unfold R64; omega
theorem wf_u32 {n : Int} (h : (Lit.int .u32 n).wf = true) : 0 ≤ n ∧ n < 4294967296 := by simp [Lit.wf, IntKind.min, IntKind.max, IntKind.bits, IntKind.signed] at h; omega
theorem flat_i64s : ∀ ms : List Int, ms.flatMap (fun p : Int => [Value.int .i64 p]) = i64s ms
  | [] => rfl
  | x :: ms => by rw [List.flatMap_cons, flat_i64s ms]; rfl
section
variable {T : Type} {enc : TypeId × Value → T} {W : World}
theorem ints_open {cs : List Value} (h : Opn enc Try.prog W 25 cs) : ∃ A L c, cs = [.slice A (L : List Int).length c] ∧ (L.length ≤ c ∧ c ≤ maxLen) ∧ Rds W A L.length 1 (i64s L) ∧ ∀ x ∈ L, R64 x := by
  rcases h.sl (s := 1) Try.underlying25 (by kernel_rfl) with rfl | ⟨a, len, cap, rfl, hl, hm, hi⟩
  · exact ⟨none, [], 0, rfl, ⟨Nat.le_refl _, Nat.zero_le _⟩, ⟨rfl, (fun _ => rfl), (fun _ h => by cases h)⟩, fun _ h => by cases h⟩
  · obtain ⟨ms, rfl, hq⟩ := pick_list (fun i (p : Int) => (∀ j, j < 1 → W.cell? (a.add (i * 1 + j)) = [Value.int .i64 p][j]?) ∧ R64 p) len (fun i hil => by
      obtain ⟨cs', hl', hc', ho⟩ := hi i hil
      obtain ⟨p, rfl, hw⟩ := ho.int Try.underlying3
      exact ⟨p, hc', wf_i64 hw⟩)
    refine ⟨some a, ms, cap, rfl, ⟨hl, hm⟩, ?_, fun x hx => ?_⟩
    · have := rds_flat (w := W) (a := a) (s := 1) (f := fun p : Int => [Value.int .i64 p]) (fun _ => rfl) (by decide) ms (fun i p hp => (hq i p hp).1)
      rwa [flat_i64s ms] at this
    · obtain ⟨i, hi'⟩ := List.getElem?_of_mem hx
      exact (hq i x hi').2
theorem wf_u8 {n : Int} (h : (Lit.int .u8 n).wf = true) : 0 ≤ n ∧ n < 256 := by simp [Lit.wf, IntKind.min, IntKind.max, IntKind.bits, IntKind.signed] at h; omega
theorem flat_b8 : ∀ ms : List Int, ms.flatMap (fun p : Int => [Value.int .u8 p]) = b8 ms
  | [] => rfl
  | x :: ms => by rw [List.flatMap_cons, flat_b8 ms]; rfl
theorem bytes_open {cs : List Value} (h : Opn enc Try.prog W 39 cs) : ∃ A L c, cs = [.slice A (L : List Int).length c] ∧ (L.length ≤ c ∧ c ≤ maxLen) ∧ Rds W A L.length 1 (b8 L) ∧ Byt L := by
  rcases h.sl (s := 1) Try.underlying39 (by kernel_rfl) with rfl | ⟨a, len, cap, rfl, hl, hm, hi⟩
  · exact ⟨none, [], 0, rfl, ⟨Nat.le_refl _, Nat.zero_le _⟩, ⟨rfl, (fun _ => rfl), (fun _ h => by cases h)⟩, fun _ h => by cases h⟩
  · obtain ⟨ms, rfl, hq⟩ := pick_list (fun i (p : Int) => (∀ j, j < 1 → W.cell? (a.add (i * 1 + j)) = [Value.int .u8 p][j]?) ∧ (0 ≤ p ∧ p < 256)) len (fun i hil => by
      obtain ⟨cs', hl', hc', ho⟩ := hi i hil
      obtain ⟨p, rfl, hw⟩ := ho.int Try.underlying5
      exact ⟨p, hc', wf_u8 hw⟩)
    refine ⟨some a, ms, cap, rfl, ⟨hl, hm⟩, ?_, fun x hx => ?_⟩
    · have := rds_flat (w := W) (a := a) (s := 1) (f := fun p : Int => [Value.int .u8 p]) (fun _ => rfl) (by decide) ms (fun i p hp => (hq i p hp).1)
      rwa [flat_b8 ms] at this
    · obtain ⟨i, hi'⟩ := List.getElem?_of_mem hx
      exact (hq i x hi').2
set_option maxRecDepth 100000 in
theorem ev_open {cs : List Value} (h : Opn enc Try.prog W 37 cs) : ∃ (x : Ev) (A6 : Option Addr) (c6 : Nat) (A27 : Option Addr) (c27 : Nat), cs = evC x.n (.slice A6 x.nums.length c6) (.slice A27 x.mem.length c27) ∧ cellsOk x c6 c27 ∧ EvRd W x A6 A27 ∧ wfE x := by
  have hl : cs.length = 29 := h.len Try.underlying37 (by kernel_rfl)
  match cs, hl, h with
  | [c0, c1, c2, c3, c4, c5, c6, c7, c8, c9, c10, c11, c12, c13, c14, c15, c16, c17, c18, c19, c20, c21, c22, c23, c24, c25, c26, c27, c28], _, h =>
    obtain ⟨n0, e0, w0⟩ := (h.fld Try.underlying37 0 3 0 1 rfl rfl (by kernel_rfl)).int Try.underlying3
    obtain ⟨n1, e1, w1⟩ := ((h.fld Try.underlying37 1 33 1 14 rfl rfl (by kernel_rfl)).fld Try.underlying33 0 3 0 1 rfl rfl (by kernel_rfl)).int Try.underlying3
    obtain ⟨n2, e2, w2⟩ := ((h.fld Try.underlying37 1 33 1 14 rfl rfl (by kernel_rfl)).fld Try.underlying33 1 3 1 1 rfl rfl (by kernel_rfl)).int Try.underlying3
    obtain ⟨n3, e3, w3⟩ := ((h.fld Try.underlying37 1 33 1 14 rfl rfl (by kernel_rfl)).fld Try.underlying33 2 3 2 1 rfl rfl (by kernel_rfl)).int Try.underlying3
    obtain ⟨n4, e4, w4⟩ := ((h.fld Try.underlying37 1 33 1 14 rfl rfl (by kernel_rfl)).fld Try.underlying33 3 3 3 1 rfl rfl (by kernel_rfl)).int Try.underlying3
    obtain ⟨b5, e5⟩ := ((h.fld Try.underlying37 1 33 1 14 rfl rfl (by kernel_rfl)).fld Try.underlying33 4 4 4 1 rfl rfl (by kernel_rfl)).bool Try.underlying4
    obtain ⟨A6, L6, k6, e6, z6, r6, w6⟩ := ints_open ((h.fld Try.underlying37 1 33 1 14 rfl rfl (by kernel_rfl)).fld Try.underlying33 5 25 5 1 rfl rfl (by kernel_rfl))
    obtain ⟨n7, e7, w7⟩ := ((h.fld Try.underlying37 1 33 1 14 rfl rfl (by kernel_rfl)).fld Try.underlying33 6 2 6 1 rfl rfl (by kernel_rfl)).int Try.underlying2
    obtain ⟨n8, e8, w8⟩ := ((h.fld Try.underlying37 1 33 1 14 rfl rfl (by kernel_rfl)).fld Try.underlying33 7 2 7 1 rfl rfl (by kernel_rfl)).int Try.underlying2
    obtain ⟨n9, e9, w9⟩ := (((h.fld Try.underlying37 1 33 1 14 rfl rfl (by kernel_rfl)).fld Try.underlying33 8 27 8 4 rfl rfl (by kernel_rfl)).fld Try.underlying27 0 3 0 1 rfl rfl (by kernel_rfl)).int Try.underlying3
    obtain ⟨n10, e10, w10⟩ := (((h.fld Try.underlying37 1 33 1 14 rfl rfl (by kernel_rfl)).fld Try.underlying33 8 27 8 4 rfl rfl (by kernel_rfl)).fld Try.underlying27 1 3 1 1 rfl rfl (by kernel_rfl)).int Try.underlying3
    obtain ⟨n11, e11, w11⟩ := (((h.fld Try.underlying37 1 33 1 14 rfl rfl (by kernel_rfl)).fld Try.underlying33 8 27 8 4 rfl rfl (by kernel_rfl)).fld Try.underlying27 2 3 2 1 rfl rfl (by kernel_rfl)).int Try.underlying3
    obtain ⟨n12, e12, w12⟩ := (((h.fld Try.underlying37 1 33 1 14 rfl rfl (by kernel_rfl)).fld Try.underlying33 8 27 8 4 rfl rfl (by kernel_rfl)).fld Try.underlying27 3 3 3 1 rfl rfl (by kernel_rfl)).int Try.underlying3
    obtain ⟨n13, e13, w13⟩ := (((h.fld Try.underlying37 1 33 1 14 rfl rfl (by kernel_rfl)).fld Try.underlying33 9 31 12 2 rfl rfl (by kernel_rfl)).fld Try.underlying31 0 29 0 1 rfl rfl (by kernel_rfl)).int Try.underlying29
    obtain ⟨n14, e14, w14⟩ := (((h.fld Try.underlying37 1 33 1 14 rfl rfl (by kernel_rfl)).fld Try.underlying33 9 31 12 2 rfl rfl (by kernel_rfl)).fld Try.underlying31 1 29 1 1 rfl rfl (by kernel_rfl)).int Try.underlying29
    obtain ⟨n15, e15, w15⟩ := ((h.fld Try.underlying37 2 35 15 13 rfl rfl (by kernel_rfl)).fld Try.underlying35 0 3 0 1 rfl rfl (by kernel_rfl)).int Try.underlying3
    obtain ⟨n16, e16, w16⟩ := ((h.fld Try.underlying37 2 35 15 13 rfl rfl (by kernel_rfl)).fld Try.underlying35 1 3 1 1 rfl rfl (by kernel_rfl)).int Try.underlying3
    obtain ⟨n17, e17, w17⟩ := ((h.fld Try.underlying37 2 35 15 13 rfl rfl (by kernel_rfl)).fld Try.underlying35 2 3 2 1 rfl rfl (by kernel_rfl)).int Try.underlying3
    obtain ⟨n18, e18, w18⟩ := ((h.fld Try.underlying37 2 35 15 13 rfl rfl (by kernel_rfl)).fld Try.underlying35 3 3 3 1 rfl rfl (by kernel_rfl)).int Try.underlying3
    obtain ⟨n19, e19, w19⟩ := ((h.fld Try.underlying37 2 35 15 13 rfl rfl (by kernel_rfl)).fld Try.underlying35 4 3 4 1 rfl rfl (by kernel_rfl)).int Try.underlying3
    obtain ⟨n20, e20, w20⟩ := ((h.fld Try.underlying37 2 35 15 13 rfl rfl (by kernel_rfl)).fld Try.underlying35 5 3 5 1 rfl rfl (by kernel_rfl)).int Try.underlying3
    obtain ⟨n21, e21, w21⟩ := ((h.fld Try.underlying37 2 35 15 13 rfl rfl (by kernel_rfl)).fld Try.underlying35 6 3 6 1 rfl rfl (by kernel_rfl)).int Try.underlying3
    obtain ⟨n22, e22, w22⟩ := ((h.fld Try.underlying37 2 35 15 13 rfl rfl (by kernel_rfl)).fld Try.underlying35 7 3 7 1 rfl rfl (by kernel_rfl)).int Try.underlying3
    obtain ⟨n23, e23, w23⟩ := ((h.fld Try.underlying37 2 35 15 13 rfl rfl (by kernel_rfl)).fld Try.underlying35 8 3 8 1 rfl rfl (by kernel_rfl)).int Try.underlying3
    obtain ⟨n24, e24, w24⟩ := (((h.fld Try.underlying37 2 35 15 13 rfl rfl (by kernel_rfl)).fld Try.underlying35 9 31 9 2 rfl rfl (by kernel_rfl)).fld Try.underlying31 0 29 0 1 rfl rfl (by kernel_rfl)).int Try.underlying29
    obtain ⟨n25, e25, w25⟩ := (((h.fld Try.underlying37 2 35 15 13 rfl rfl (by kernel_rfl)).fld Try.underlying35 9 31 9 2 rfl rfl (by kernel_rfl)).fld Try.underlying31 1 29 1 1 rfl rfl (by kernel_rfl)).int Try.underlying29
    obtain ⟨n26, e26, w26⟩ := ((h.fld Try.underlying37 2 35 15 13 rfl rfl (by kernel_rfl)).fld Try.underlying35 10 29 11 1 rfl rfl (by kernel_rfl)).int Try.underlying29
    obtain ⟨A27, L27, k27, e27, z27, r27, w27⟩ := ints_open ((h.fld Try.underlying37 2 35 15 13 rfl rfl (by kernel_rfl)).fld Try.underlying35 11 25 12 1 rfl rfl (by kernel_rfl))
    obtain ⟨n28, e28, w28⟩ := (h.fld Try.underlying37 3 2 28 1 rfl rfl (by kernel_rfl)).int Try.underlying2
    simp at e0 e1 e2 e3 e4 e5 e6 e7 e8 e9 e10 e11 e12 e13 e14 e15 e16 e17 e18 e19 e20 e21 e22 e23 e24 e25 e26 e27 e28
    subst e0 e1 e2 e3 e4 e5 e6 e7 e8 e9 e10 e11 e12 e13 e14 e15 e16 e17 e18 e19 e20 e21 e22 e23 e24 e25 e26 e27 e28
    obtain ⟨ns, hns⟩ : ∃ ns : List Int, ns = [n0, n1, n2, n3, n4, (if b5 then 1 else 0), 0, n7, n8, n9, n10, n11, n12, n13, n14, n15, n16, n17, n18, n19, n20, n21, n22, n23, n24, n25, n26, 0, n28] := ⟨_, rfl⟩
    have hr : ∀ j, R64 (ns.getD j 0) := by
      intro j
      rw [List.getD_eq_getElem?_getD]
      cases hj : ns[j]? with
      | none => exact ⟨by decide, by decide⟩
      | some v =>
        have hv := List.mem_of_getElem? hj
        rw [hns] at hv
        simp only [List.mem_cons, List.not_mem_nil, or_false] at hv
        rcases hv with rfl | rfl | rfl | rfl | rfl | rfl | rfl | rfl | rfl | rfl | rfl | rfl | rfl | rfl | rfl | rfl | rfl | rfl | rfl | rfl | rfl | rfl | rfl | rfl | rfl | rfl | rfl | rfl | rfl
        · exact wf_i64 w0
        · exact wf_i64 w1
        · exact wf_i64 w2
        · exact wf_i64 w3
        · exact wf_i64 w4
        · cases b5 <;> exact ⟨by decide, by decide⟩
        · exact ⟨by decide, by decide⟩
        · exact wf_i64 w7
        · exact wf_i64 w8
        · exact wf_i64 w9
        · exact wf_i64 w10
        · exact wf_i64 w11
        · exact wf_i64 w12
        · have := wf_u32 w13; exact ⟨by simp only [Option.getD_some]; omega, by simp only [Option.getD_some]; omega⟩
        · have := wf_u32 w14; exact ⟨by simp only [Option.getD_some]; omega, by simp only [Option.getD_some]; omega⟩
        · exact wf_i64 w15
        · exact wf_i64 w16
        · exact wf_i64 w17
        · exact wf_i64 w18
        · exact wf_i64 w19
        · exact wf_i64 w20
        · exact wf_i64 w21
        · exact wf_i64 w22
        · exact wf_i64 w23
        · have := wf_u32 w24; exact ⟨by simp only [Option.getD_some]; omega, by simp only [Option.getD_some]; omega⟩
        · have := wf_u32 w25; exact ⟨by simp only [Option.getD_some]; omega, by simp only [Option.getD_some]; omega⟩
        · have := wf_u32 w26; exact ⟨by simp only [Option.getD_some]; omega, by simp only [Option.getD_some]; omega⟩
        · exact ⟨by decide, by decide⟩
        · exact wf_i64 w28
    refine ⟨⟨fun j => ns.getD j 0, L6, L27⟩, A6, k6, A27, k27, ?_, ⟨z6, z27⟩, ⟨r6, r27⟩, hr, ?_, ?_, w6, w27⟩
    · rw [hns]
      cases b5 <;> rfl
    · intro j hj
      rw [hns]
      simp only [List.mem_cons, List.not_mem_nil, or_false] at hj
      rcases hj with rfl | rfl | rfl | rfl | rfl
      · exact wf_u32 w13
      · exact wf_u32 w14
      · exact wf_u32 w24
      · exact wf_u32 w25
      · exact wf_u32 w26
    · rw [hns]
      cases b5
      · exact .inl rfl
      · exact .inr rfl
end
end Go.Proofs.Ytalafklnnohlgaa.Cod
