/- code's carrier: its state, and what one of its numbers does to it. Conditions: the bytes so far leave room. -/
import Derived.Test.YtalafklnnohlgaaOct5
import Derived.Test.YtalafklnnohlgaaX12
namespace Go.Proofs.Ytalafklnnohlgaa.Cod
open Go.RowKit X Go.Proofs.YtalafklnnohlgaaW.PrintLast
open Oct hiding agg39 size39
set_option linter.unusedVariables false
set_option linter.unusedSimpArgs false

def Byt (d : List Int) : Prop := ∀ u ∈ d, 0 ≤ u ∧ u < 256
theorem beU_snoc (d : List Int) (b : Int) : beU (d ++ [b]) = stepU (beU d) b := by simp [beU]
theorem stepU_eq {a b : Int} (ha : 0 ≤ a) (hb : 0 ≤ b) (h : a * 256 + b < 18446744073709551616) : stepU a b = a * 256 + b := by
  unfold stepU
  rw [wr_u64 (x := a * 256) (by omega) (by omega), wr_u64 (x := b) hb (by omega), wr_u64 (by omega) h]
theorem beU_rg : ∀ (n : Nat) (d : List Int), d.length = n → n ≤ 8 → Byt d → 0 ≤ beU d ∧ beU d < 256 ^ n := by
  intro n
  induction n with
  | zero => intro d hd _ _; have := List.eq_nil_of_length_eq_zero hd; subst this; simp [beU]
  | succ n ih =>
    intro d hd h8 hb
    rcases List.eq_nil_or_concat d with rfl | ⟨e, b, rfl⟩
    · simp at hd
    · rw [List.concat_eq_append] at *
      have he : e.length = n := by simpa using hd
      obtain ⟨h0, h1⟩ := ih e he (by omega) (fun u hu => hb u (by simp [hu]))
      obtain ⟨b0, b1⟩ := hb b (by simp)
      have hp : (256 : Int) ^ (n + 1) = 256 ^ n * 256 := Int.pow_succ _ _
      have hm : (256 : Int) ^ (n + 1) ≤ 18446744073709551616 := by
        have : n = 0 ∨ n = 1 ∨ n = 2 ∨ n = 3 ∨ n = 4 ∨ n = 5 ∨ n = 6 ∨ n = 7 := by omega
        rcases this with rfl | rfl | rfl | rfl | rfl | rfl | rfl | rfl <;> decide
      rw [beU_snoc, stepU_eq h0 b0 (by omega)]
      constructor <;> omega
theorem beB_mod : ∀ (r : Nat) (x : Int), beB r (x % 256 ^ r) = beB r x
  | 0, _ => rfl
  | r + 1, x => by
    have hp : (0 : Int) < 256 ^ r := Int.pow_pos (by decide)
    have e : (256 : Int) ^ (r + 1) = 256 ^ r * 256 := Int.pow_succ _ _
    simp only [beB]
    congr 1
    · have h1 : x % (256 ^ r * 256) = x + 256 ^ r * (-(256 * (x / (256 ^ r * 256)))) := by
        rw [Int.emod_def, Int.mul_neg, ← Int.mul_assoc, Int.sub_eq_add_neg]
      rw [e, h1, Int.add_mul_ediv_left _ _ (by omega)]
      omega
    · rw [Int.emod_emod_of_dvd _ (by rw [e]; exact Int.dvd_mul_right _ _)]

/-- The carrier: to bytes, or from them. -/
inductive Cs where
  | w (A : Option Addr) (c : Nat) (out : List Int) (bad : Bool)
  | r (rg : Nat) (A : Option Addr) (c : Nat) (l : List Int) (wk : Nat) (er : Int) (bad : Bool)
def carH (cg : Nat) : Cs → List Ck
  | .w A c out bad => [.blk cg [.pointer none, .slice A out.length c, .bool bad] 96, .row (.slice A out.length c) 5 1 out.length (b8 out)]
  | .r rg A c l wk er bad => [.blk cg [pt rg, .slice none 0 0, .bool bad] 96, .blk rg [.slice A l.length c, .int .i64 wk, .int .i64 er] 109, .row (.slice A l.length c) 5 1 l.length (b8 l)]
/-- Room for k more bytes; where one reads: within the bytes. -/
def room (k : Nat) : Cs → Prop
  | .w A c out bad => out.length + k ≤ 140737488355328
  | .r rg A c l wk er bad => wk ≤ l.length ∧ l.length ≤ 140737488355328 ∧ Byt l ∧ (er = 0 ∨ er = 7)
def nofit (W : Nat) (x : Int) : Bool := Nat.blt W 8 && !decide (x / 256 ^ W = 0)
/-- A number of W bytes. -/
def OneV (W : Nat) (k : IntKind) (s : Cs) (v : Int) (s' : Cs) (v' : Int) : Prop :=
  match s with
  | .w A c out bad => v' = v ∧ ∃ A' c', s' = .w A' c' (out ++ beB W (IntKind.u64.wrap v)) (bad || nofit W (IntKind.u64.wrap v))
  | .r rg A c l wk er bad => s' = .r rg A c l (wkR l.length wk er W) (erR l.length wk er W) bad ∧ v' = k.wrap (beU (tkR l wk er W))

theorem sh8 (x : Int) (r : Nat) (h0 : 0 ≤ x) (hr : r ≤ 8) : x.fdiv (2 ^ (min (IntKind.i64.wrap (8 * r)).toNat IntKind.u64.bits)) = x / 256 ^ r := by
  have : r = 0 ∨ r = 1 ∨ r = 2 ∨ r = 3 ∨ r = 4 ∨ r = 5 ∨ r = 6 ∨ r = 7 ∨ r = 8 := by omega
  rcases this with rfl | rfl | rfl | rfl | rfl | rfl | rfl | rfl | rfl <;> exact Int.fdiv_eq_ediv_of_nonneg _ (by decide)
theorem putc_set : ∀ (cs : List Value) (j : Nat) (v : Value), j < cs.length → putc cs j [v] = cs.set j v
  | [], j, v, h => by simp at h
  | c :: cs, 0, v, h => by simp [putc]
  | c :: cs, j + 1, v, h => by
    have := putc_set cs j v (by simpa using h)
    simp only [putc, List.take_succ_cons, List.cons_append, List.set_cons_succ, List.length_cons, List.length_nil] at this ⊢
    rw [← this]
    simp
theorem set_same {cs : List Value} {j : Nat} {v : Value} (h : cs[j]? = some v) : cs.set j v = cs := by
  obtain ⟨hl, h⟩ := List.getElem?_eq_some_iff.1 h
  subst h
  simp
theorem wrap_u64 (v : Int) : 0 ≤ IntKind.u64.wrap v := by rw [wr_u64']; omega

def oneC (cg g tb W : Nat) (k : IntKind) (s : Cs) (cs : List Value) (j : Nat) (v : Int) : Value → List Ck → Prop := fun r H' => r = .tuple #[] ∧ ∃ s' v', OneV W k s v s' v' ∧ H' = carH cg s' ++ [.blk g (cs.set j (.int k v')) tb]

theorem tk_byt {l : List Int} {wk : Nat} {er n : Int} (h : Byt l) : Byt (tkR l wk er n) := by
  intro u hu
  unfold tkR at hu
  split at hu
  · simp at hu
  · exact h u (List.mem_of_mem_drop (List.mem_of_mem_take hu))
theorem tk_le (l : List Int) (wk : Nat) (er : Int) (W : Nat) : (tkR l wk er W).length ≤ W := by
  unfold tkR
  split
  · simp
  · simp; omega
theorem beU_w (l : List Int) (wk : Nat) (er : Int) (W : Nat) (h8 : W ≤ 8) (h : Byt l) : 0 ≤ beU (tkR l wk er W) ∧ beU (tkR l wk er W) < 256 ^ W := by
  have h1 := beU_rg _ (tkR l wk er W) rfl (Nat.le_trans (tk_le l wk er W) h8) (tk_byt h)
  have h2 : (256 : Int) ^ (tkR l wk er W).length ≤ 256 ^ W := by
    have h3 := Nat.pow_le_pow_right (n := 256) (by decide) (tk_le l wk er W)
    have h4 : ((256 ^ (tkR l wk er W).length : Nat) : Int) ≤ ((256 ^ W : Nat) : Int) := Int.ofNat_le.2 h3
    rw [Int.natCast_pow, Int.natCast_pow] at h4
    exact h4
  omega
theorem x1 (l : List Int) (wk : Nat) (er : Int) (h : Byt l) : IntKind.u64.wrap (IntKind.u8.wrap (beU (tkR l wk er 1))) = beU (tkR l wk er (1 : Nat)) := by
  show _ = beU (tkR l wk er 1)
  have h2 : 0 ≤ beU (tkR l wk er 1) ∧ beU (tkR l wk er 1) < 256 ^ 1 := beU_w l wk er 1 (by decide) h
  simp only [Int.pow_one] at h2
  rw [wr_u8, wr_u64] <;> omega
theorem x2 (l : List Int) (wk : Nat) (er : Int) (h : Byt l) : IntKind.u64.wrap (IntKind.u16.wrap (beU (tkR l wk er 2))) = beU (tkR l wk er (2 : Nat)) := by
  show _ = beU (tkR l wk er 2)
  have h2 : 0 ≤ beU (tkR l wk er 2) ∧ beU (tkR l wk er 2) < 256 ^ 2 := beU_w l wk er 2 (by decide) h
  have e : (256 : Int) ^ 2 = 65536 := by decide
  rw [wr_u16, wr_u64] <;> omega
theorem x4 (l : List Int) (wk : Nat) (er : Int) (h : Byt l) : IntKind.u64.wrap (IntKind.u32.wrap (beU (tkR l wk er 4))) = beU (tkR l wk er (4 : Nat)) := by
  show _ = beU (tkR l wk er 4)
  have h2 : 0 ≤ beU (tkR l wk er 4) ∧ beU (tkR l wk er 4) < 256 ^ 4 := beU_w l wk er 4 (by decide) h
  have e : (256 : Int) ^ 4 = 4294967296 := by decide
  rw [wr_u32, wr_u64] <;> omega
theorem x8 (l : List Int) (wk : Nat) (er : Int) (h : Byt l) : beU (tkR l wk er 8) = beU (tkR l wk er (8 : Nat)) := rfl

set_option maxHeartbeats 4000000 in
set_option maxRecDepth 100000 in
theorem one89_w (A : Option Addr) (c : Nat) (out : List Int) (bad : Bool) (cg g tb j W : Nat) (hW : W = 1 ∨ W = 2 ∨ W = 4 ∨ W = 8) (cs : List Value) (v : Int) (hj : cs[j]? = some (.int .i64 v)) (hr : room 8 (.w A c out bad)) :
    Con Try.prog 89 #[pt cg, .int .i64 W, .pointer (some ⟨g, j, none⟩)] (carH cg (.w A c out bad) ++ [.blk g cs tb]) (fun _ => True) (oneC cg g tb W .i64 (.w A c out bad) cs j v) := by
  refine Con.intro Try.func89 rfl Try.ntmps89 rfl (fun w _ => ?_)
  simp only [carH, pt, List.cons_append, List.nil_append]
  repeat (first | refine WC.seq ?_ | refine WC.region ?_ | refine WL.nil ?_ | with_reducible refine QE.then_n ?_ | refine WC.cond_t rfl ?_ | refine WL.move _ rfl (by decide) rfl ?_ | refine WL.bin _ _ _ rfl (by decide) rfl rfl (fun _ => rfl) ?_ | refine WL.nilc _ rfl (by decide) rfl ?_ | refine WL.fd96_0 rfl (by decide) rfl ?_ | refine WL.ld68 0 rfl (by decide) rfl rfl rfl ?_)
  have hr' : out.length + 8 ≤ 140737488355328 := hr
  have hx0 := wrap_u64 v
  refine WL.ld3 2 rfl (by decide) rfl rfl hj ?_
  repeat (first | refine WL.nil ?_ | with_reducible refine QE.then_n ?_ | refine WL.assign _ rfl (by decide) rfl ?_ | refine WL.cv3_53 rfl (by decide) rfl ?_)
  obtain ⟨x, hx⟩ : ∃ x, IntKind.u64.wrap v = x := ⟨_, rfl⟩
  rw [hx] at hx0 ⊢
  refine WC.cut (σ := Unit) (fun _ => [(0, pt cg), (1, .int .i64 W), (6, .int .u64 x)]) (fun _ => [.blk cg [.pointer none, .slice A out.length c, .bool (bad || nofit W x)] 96, .row (.slice A out.length c) 5 1 out.length (b8 out), .blk g cs tb]) (fun _ => True) ?_ ?_
  · rintro _ _
    unfold pt
    repeat (first | refine WC.seq ?_ | refine WC.region ?_ | refine WC.block ?_ | refine WL.move _ rfl (by decide) rfl ?_ | refine WL.assign _ rfl (by decide) rfl ?_ | refine WL.bin _ _ _ rfl (by decide) rfl rfl (fun _ => rfl) ?_)
    have hW8 : W ≤ 8 := by omega
    refine WC.loop (σ := Nat × Option Addr × Nat × List Int) (fun s => [(7, .int .i64 ((s.1 : Int) - 1)), (0, .pointer (some ⟨cg, 0, none⟩)), (6, .int .u64 x)])
      (fun s => [.blk cg [.pointer none, .slice s.2.1 (out ++ s.2.2.2).length s.2.2.1, .bool (bad || nofit W x)] 96, .row (.slice s.2.1 (out ++ s.2.2.2).length s.2.2.1) 5 1 (out ++ s.2.2.2).length (b8 (out ++ s.2.2.2)), .blk g cs tb])
      (fun s => s.2.2.2 ++ beB s.1 x = beB W x ∧ s.2.2.2.length + s.1 = W) (fun s => s.1) (W, A, c, []) ⟨rfl, by simp⟩ (.eq rfl (congrArg _ (wr_i64 (by omega) (by omega))) (.cons rfl (.cons rfl .nil))) (by simp) ?_
    rintro ⟨r, A1, c1, dn⟩ ⟨h1, h2⟩
    dsimp only at h1 h2 ⊢
    have hlo : (out ++ dn).length + r ≤ 140737488355328 := by rw [List.length_append]; omega
    repeat (first | refine WC.seq ?_ | refine WC.region ?_ | refine WL.nil ?_ | with_reducible refine QE.then_n ?_ | refine WL.move _ rfl (by decide) rfl ?_ | refine WL.bin _ _ _ rfl (by decide) rfl rfl (fun _ => rfl) ?_)
    refine WC.cond _ rfl (fun hb => ?_) (fun hb => ?_)
    · have hb : (r : Int) - 1 ≥ 0 := of_decide_eq_true hb
      obtain ⟨r, rfl⟩ : ∃ q, r = q + 1 := ⟨r - 1, by omega⟩
      refine WC.know (.int .i64 (r : Int)) (s := 7) rfl (congrArg _ (by omega)) ?_
      repeat (first | refine WC.seq ?_ | refine WC.block ?_ | refine WC.skip ?_)
      refine WC.draw 15 #[false, false, false, false, false, false, false, false, false, false, false, false, false, false, false] [.blk cg [.pointer none, .slice A1 (out ++ dn).length c1, .bool (or bad (nofit W x))] 96] [11, 14] (by kernel_rfl) rfl rfl (by repeat (first | exact List.Sublist.refl _ | exact List.nil_sublist _ | refine List.Sublist.cons_cons _ ?_ | refine List.Sublist.cons _ ?_)) ?_
      refine WA.move 0 #[true, false, false, false, false, false, false, false, false, false, false, false, false, false, false] _ rfl rfl rfl (by decide) (by kernel_rfl) (by repeat (first | with_reducible refine Qp.then ?_ | with_reducible refine Qp.blk ?_ | with_reducible exact Qp.body)) ?_
      refine WA.move 1 #[true, true, false, false, false, false, false, false, false, false, false, false, false, false, false] _ rfl rfl rfl (by decide) (by kernel_rfl) (by repeat (first | with_reducible refine Qp.then ?_ | with_reducible refine Qp.blk ?_ | with_reducible exact Qp.body)) ?_
      refine WA.nilc 2 #[true, true, true, false, false, false, false, false, false, false, false, false, false, false, false] _ rfl rfl rfl (by decide) (by kernel_rfl) (by repeat (first | with_reducible refine Qp.then ?_ | with_reducible refine Qp.blk ?_ | with_reducible exact Qp.body)) ?_
      refine WA.faddr 3 #[true, true, true, true, false, false, false, false, false, false, false, false, false, false, false] _ _ rfl (fa96_1 _ _) rfl rfl (by decide) (by kernel_rfl) (by repeat (first | with_reducible refine Qp.then ?_ | with_reducible refine Qp.blk ?_ | with_reducible exact Qp.body)) ?_
      refine WA.load 4 #[true, true, true, true, true, false, false, false, false, false, false, false, false, false, false] 0 _ _ _ _ _ rfl rfl (by decide) (by repeat (first | exact List.Sublist.refl _ | exact List.nil_sublist _ | refine List.Sublist.cons_cons _ ?_ | refine List.Sublist.cons _ ?_)) (by kernel_rfl) (by repeat (first | with_reducible refine Qp.then ?_ | with_reducible refine Qp.blk ?_ | with_reducible exact Qp.body)) rfl agg39 rfl rfl ?_
      refine WA.move 5 #[true, true, true, true, true, true, false, false, false, false, false, false, false, false, false] _ rfl rfl rfl (by decide) (by kernel_rfl) (by repeat (first | with_reducible refine Qp.then ?_ | with_reducible refine Qp.blk ?_ | with_reducible exact Qp.body)) ?_
      refine WA.move 6 #[true, true, true, true, true, true, true, false, false, false, false, false, false, false, false] _ rfl rfl rfl (by decide) (by kernel_rfl) (by repeat (first | with_reducible refine Qp.then ?_ | with_reducible refine Qp.blk ?_ | with_reducible exact Qp.body)) ?_
      refine WA.bin 7 #[true, true, true, true, true, true, true, true, false, false, false, false, false, false, false] _ _ _ rfl rfl (fun _ => rfl) rfl rfl (by decide) (by kernel_rfl) (by repeat (first | with_reducible refine Qp.then ?_ | with_reducible refine Qp.blk ?_ | with_reducible exact Qp.body)) ?_
      refine WA.bin 8 #[true, true, true, true, true, true, true, true, true, false, false, false, false, false, false] _ _ _ rfl rfl (run_shr .u64 .i64 x _ (by rw [wr_i64] <;> omega)) rfl rfl (by decide) (by kernel_rfl) (by repeat (first | with_reducible refine Qp.then ?_ | with_reducible refine Qp.blk ?_ | with_reducible exact Qp.body)) ?_
      refine WA.know (.int .u64 (x / 256 ^ r)) (s := 50) rfl (congrArg _ (sh8 x r hx0 (by omega))) ?_
      refine WA.conv 9 #[true, true, true, true, true, true, true, true, true, true, false, false, false, false, false] _ _ rfl (run_conv _ _ _ Try.underlying53 Try.underlying5) rfl rfl (by decide) (by kernel_rfl) (by repeat (first | with_reducible refine Qp.then ?_ | with_reducible refine Qp.blk ?_ | with_reducible exact Qp.body)) ?_
      refine WA.buildS 10 #[true, true, true, true, true, true, true, true, true, true, true, false, false, false, false] 1 5 1 [(0, .int .u8 (IntKind.u8.wrap (x / 256 ^ r)))] [.int .u8 (IntKind.u8.wrap (x / 256 ^ r))] rfl rfl (by decide) (by kernel_rfl) rfl (by repeat (first | exact List.Sublist.refl _ | exact List.nil_sublist _ | refine List.Sublist.cons_cons _ ?_ | refine List.Sublist.cons _ ?_)) rfl rfl rfl (fun w => by kernel_rfl) (fun gb => ?_)
      refine WA.append 11 #[true, true, true, true, true, true, true, true, true, true, true, true, false, false, false] 2 5 1 1 (out ++ dn).length 1 1 (.int .u8 0) _ _ (b8 (out ++ dn)) [.int .u8 (IntKind.u8.wrap (x / 256 ^ r))] rfl rfl (by decide) (by kernel_rfl) rfl rfl rfl Try.underlying39 info5 rfl (by decide) rfl (fun w hI => row_reads hI (i := 0) rfl) (by simp [Value.oneCell']) (by omega) (by omega) (fun A2 c2 => ?_)
      refine WA.nilc 12 #[true, true, true, true, true, true, true, true, true, true, true, true, true, false, false] _ rfl rfl rfl (by decide) (by kernel_rfl) (by repeat (first | with_reducible refine Qp.then ?_ | with_reducible refine Qp.blk ?_ | with_reducible exact Qp.body)) ?_
      refine WA.faddr 13 #[true, true, true, true, true, true, true, true, true, true, true, true, true, true, false] _ _ rfl (fa96_1 _ _) rfl rfl (by decide) (by kernel_rfl) (by repeat (first | with_reducible refine Qp.then ?_ | with_reducible refine Qp.blk ?_ | with_reducible exact Qp.body)) ?_
      refine WA.store 14 #[true, true, true, true, true, true, true, true, true, true, true, true, true, true, true] 1 cg 1 _ _ _ _ _ rfl rfl (by kernel_rfl) rfl rfl rfl rfl rfl size39 rfl rfl rfl ?_
      refine WA.done (by kernel_rfl) ?_
      repeat (first | refine WC.region ?_ | refine WL.nil ?_ | refine WL.move _ rfl (by decide) rfl ?_ | refine WL.assign _ rfl (by decide) rfl ?_ | refine WL.bin _ _ _ rfl (by decide) rfl rfl (fun _ => rfl) ?_)
      refine QE.round (r, A2, c2, dn ++ [IntKind.u8.wrap (x / 256 ^ r)]) ⟨?_, by simp; omega⟩ (Nat.lt_succ_self _) (.eq rfl (congrArg _ (wr_i64 (by omega) (by omega))) (.cons rfl (.cons rfl .nil))) ?_
      · rw [← h1, wr_u8]
        simp only [beB, List.append_assoc, List.cons_append, List.nil_append, beB_mod]
      · rw [← List.append_assoc, List.length_append (bs := [_]), show b8 ((out ++ dn) ++ [IntKind.u8.wrap (x / 256 ^ r)]) = b8 (out ++ dn) ++ [.int .u8 (IntKind.u8.wrap (x / 256 ^ r))] by simp [b8]]
        exact .cons _ (.refl _)
    · have hb := of_decide_eq_false hb
      obtain rfl : r = 0 := by omega
      obtain rfl : dn = beB W x := by simpa [beB] using h1
      repeat (first | refine WC.exit ?_ | refine WC.ret ?_ | with_reducible refine QE.then_r ?_)
      refine QE.ret0 _ rfl (.refl _) ⟨rfl, .w A1 c1 (out ++ beB W x) (bad || nofit W x), v, ⟨rfl, A1, c1, by rw [hx]⟩, ?_⟩
      rw [set_same hj]
      rfl
  · cases bad
    · repeat (first | refine WC.region ?_ | refine WL.move _ rfl (by decide) rfl ?_ | refine WL.bin _ _ _ rfl (by decide) rfl rfl (fun _ => rfl) ?_ | refine WL.nilc _ rfl (by decide) rfl ?_ | refine WL.fd96_2 rfl (by decide) rfl ?_ | refine WL.ld4 0 rfl (by decide) rfl rfl rfl ?_)
      refine WL.split 26 _ rfl (fun h8 => ?_) (fun h8 => ?_)
      · have h8 : (W : Int) < 8 := of_decide_eq_true h8
        repeat (first | refine WL.move _ rfl (by decide) rfl ?_ | refine WL.bin _ _ _ rfl (by decide) rfl rfl (fun _ => rfl) ?_)
        refine WL.shr .u64 .i64 x _ (x / 256 ^ W) rfl (by decide) rfl rfl (by rw [wr_i64] <;> omega) (sh8 x W hx0 (by omega)) ?_
        repeat (first | refine WL.nil ?_ | refine WL.bin _ _ _ rfl (by decide) rfl rfl (fun _ => rfl) ?_ | refine WL.nilc _ rfl (by decide) rfl ?_ | refine WL.pick _ _ rfl (by decide) rfl rfl ?_ | refine WL.fd96_2 rfl (by decide) rfl ?_ | refine WL.st4 0 rfl rfl rfl rfl rfl rfl rfl rfl rfl ?_)
        exact QE.cut () trivial (.cons rfl (.cons rfl (.cons rfl .nil))) (by rw [show nofit W x = !decide (x / 256 ^ W = 0) by simp [nofit, show W < 8 by omega]]; exact .refl _)
      · have h8 : ¬ (W : Int) < 8 := of_decide_eq_false h8
        repeat (first | refine WL.nil ?_ | refine WL.nilc _ rfl (by decide) rfl ?_ | refine WL.off rfl (by decide) ?_ | refine WL.pick _ _ rfl (by decide) rfl rfl ?_ | refine WL.fd96_2 rfl (by decide) rfl ?_ | refine WL.st4 0 rfl rfl rfl rfl rfl rfl rfl rfl rfl ?_)
        exact QE.cut () trivial (.cons rfl (.cons rfl (.cons rfl .nil))) (by rw [show nofit W x = false by simp [nofit]; omega]; exact .refl _)
    · repeat (first | refine WC.region ?_ | refine WL.nil ?_ | refine WL.move _ rfl (by decide) rfl ?_ | refine WL.nilc _ rfl (by decide) rfl ?_ | refine WL.off rfl (by decide) ?_ | refine WL.pick _ _ rfl (by decide) rfl rfl ?_ | refine WL.offu rfl (by decide) ?_ | refine WL.fd96_2 rfl (by decide) rfl ?_ | refine WL.ld4 0 rfl (by decide) rfl rfl rfl ?_ | refine WL.st4 0 rfl rfl rfl rfl rfl rfl rfl rfl rfl ?_)
      exact QE.cut () trivial (.cons rfl (.cons rfl (.cons rfl .nil))) (.refl _)
set_option maxHeartbeats 4000000 in
set_option maxRecDepth 100000 in
theorem one89_r (rg : Nat) (A : Option Addr) (c : Nat) (l : List Int) (wk : Nat) (er : Int) (bad : Bool) (cg g tb j W : Nat) (hW : W = 1 ∨ W = 2 ∨ W = 4 ∨ W = 8) (cs : List Value) (v : Int) (hj : cs[j]? = some (.int .i64 v)) (hr : room 8 (.r rg A c l wk er bad)) :
    Con Try.prog 89 #[pt cg, .int .i64 W, .pointer (some ⟨g, j, none⟩)] (carH cg (.r rg A c l wk er bad) ++ [.blk g cs tb]) (fun _ => True) (oneC cg g tb W .i64 (.r rg A c l wk er bad) cs j v) := by
  refine Con.intro Try.func89 rfl Try.ntmps89 rfl (fun w _ => ?_)
  simp only [carH, pt, List.cons_append, List.nil_append]
  obtain ⟨hwk, hln, hby, her⟩ := hr
  have hj1 : j < cs.length := (List.getElem?_eq_some_iff.1 hj).1
  skip
  refine WC.seq ?_
  skip
  refine WC.seq ?_
  repeat (first | refine WC.region ?_ | refine WC.skip ?_ | refine WL.nil ?_ | with_reducible refine QE.then_n ?_ | refine WC.cond_f rfl ?_ | refine WL.move _ rfl (by decide) rfl ?_ | refine WL.bin _ _ _ rfl (by decide) rfl rfl (fun _ => rfl) ?_ | refine WL.nilc _ rfl (by decide) rfl ?_ | refine WL.fd96_0 rfl (by decide) rfl ?_ | refine WL.ld68 0 rfl (by decide) rfl rfl rfl ?_)
  refine WC.seq ?_
  repeat (first | refine WC.region ?_ | refine WL.nil ?_ | with_reducible refine QE.then_n ?_ | refine WL.assign _ rfl (by decide) rfl ?_)
  refine WC.cut (σ := Unit) (fun _ => [(2, .pointer (some ⟨g, j, none⟩)), (8, .int .u64 (beU (tkR l wk er W)))]) (fun _ => [.blk cg [pt rg, .slice none 0 0, .bool bad] 96, .blk rg [.slice A l.length c, .int .i64 (wkR l.length wk er W), .int .i64 (erR l.length wk er W)] 109, .row (.slice A l.length c) 5 1 l.length (b8 l), .blk g cs tb]) (fun _ => True) ?_ ?_
  · rintro _ _
    unfold pt
    repeat (first | refine WC.region ?_ | refine WL.move _ rfl (by decide) rfl ?_ | refine WL.nilc _ rfl (by decide) rfl ?_ | refine WL.cv53_3 rfl (by decide) rfl ?_)
    refine WL.st3 3 (cs := cs) (v := .int .i64 (IntKind.i64.wrap (beU (tkR l wk er W)))) rfl rfl rfl rfl rfl rfl rfl (Nat.ble_eq_true_of_le hj1) (putc_set cs j _ hj1) ?_
    repeat (refine WL.nil ?_)
    exact QE.end0 _ rfl (.refl _) ⟨rfl, .r rg A c l (wkR l.length wk er W) (erR l.length wk er W) bad, _, ⟨rfl, rfl⟩, rfl⟩
  · rcases hW with rfl | rfl | rfl | rfl
    · repeat (first | refine WC.seq ?_ | refine WC.region ?_ | refine WC.block ?_ | refine WL.nil ?_ | with_reducible refine QE.then_n ?_ | refine WC.cond_t rfl ?_ | refine WL.move _ rfl (by decide) rfl ?_ | refine WL.assign _ rfl (by decide) rfl ?_ | refine WL.bin _ _ _ rfl (by decide) rfl rfl (fun _ => rfl) ?_ | refine WL.nilc _ rfl (by decide) rfl ?_ | refine WL.fd96_0 rfl (by decide) rfl ?_ | refine WL.ld68 0 rfl (by decide) rfl rfl rfl ?_)
      refine WL.call [] [] [pt rg] _ _ [.blk cg [pt rg, .slice none 0 0, .bool bad] 96, .blk g cs tb] (get1_con rg c wk A l er hwk hln) rfl (by decide) rfl Try.func42 rfl rfl rfl rfl (List.perm_middle (l₁ := [_, _])) (fun _ _ => trivial) ?_
      rintro r H1 ⟨rfl, rfl⟩
      unfold rd
      refine WL.perm _ (List.perm_middle (l₁ := [_, _])).symm ?_
      repeat (first | refine WL.nil ?_ | with_reducible refine QE.blk_n ?_ | refine WL.assign _ rfl (by decide) rfl ?_ | refine WL.cv5_53 rfl (by decide) rfl ?_)
      exact QE.cut () trivial (.cons rfl (.eq rfl (congrArg _ (x1 l wk er hby)) .nil)) (.refl _)
    · repeat (first | refine WC.seq ?_ | refine WC.region ?_ | refine WC.block ?_ | refine WL.nil ?_ | with_reducible refine QE.then_n ?_ | refine WC.cond_t rfl ?_ | refine WC.cond_f rfl ?_ | refine WL.move _ rfl (by decide) rfl ?_ | refine WL.assign _ rfl (by decide) rfl ?_ | refine WL.bin _ _ _ rfl (by decide) rfl rfl (fun _ => rfl) ?_ | refine WL.nilc _ rfl (by decide) rfl ?_ | refine WL.fd96_0 rfl (by decide) rfl ?_ | refine WL.ld68 0 rfl (by decide) rfl rfl rfl ?_)
      refine WL.call [] [] [pt rg] _ _ [.blk cg [pt rg, .slice none 0 0, .bool bad] 96, .blk g cs tb] (get2_con rg c wk A l er hwk hln) rfl (by decide) rfl Try.func44 rfl rfl rfl rfl (List.perm_middle (l₁ := [_, _])) (fun _ _ => trivial) ?_
      rintro r H1 ⟨rfl, rfl⟩
      unfold rd
      refine WL.perm _ (List.perm_middle (l₁ := [_, _])).symm ?_
      repeat (first | refine WL.nil ?_ | with_reducible refine QE.blk_n ?_ | refine WL.assign _ rfl (by decide) rfl ?_ | refine WL.cv55_53 rfl (by decide) rfl ?_)
      exact QE.cut () trivial (.cons rfl (.eq rfl (congrArg _ (x2 l wk er hby)) .nil)) (.refl _)
    · repeat (first | refine WC.seq ?_ | refine WC.region ?_ | refine WC.block ?_ | refine WL.nil ?_ | with_reducible refine QE.then_n ?_ | refine WC.cond_t rfl ?_ | refine WC.cond_f rfl ?_ | refine WL.move _ rfl (by decide) rfl ?_ | refine WL.assign _ rfl (by decide) rfl ?_ | refine WL.bin _ _ _ rfl (by decide) rfl rfl (fun _ => rfl) ?_ | refine WL.nilc _ rfl (by decide) rfl ?_ | refine WL.fd96_0 rfl (by decide) rfl ?_ | refine WL.ld68 0 rfl (by decide) rfl rfl rfl ?_)
      refine WL.call [] [] [pt rg] _ _ [.blk cg [pt rg, .slice none 0 0, .bool bad] 96, .blk g cs tb] (get4_con rg c wk A l er hwk hln) rfl (by decide) rfl Try.func45 rfl rfl rfl rfl (List.perm_middle (l₁ := [_, _])) (fun _ _ => trivial) ?_
      rintro r H1 ⟨rfl, rfl⟩
      unfold rd
      refine WL.perm _ (List.perm_middle (l₁ := [_, _])).symm ?_
      repeat (first | refine WL.nil ?_ | with_reducible refine QE.blk_n ?_ | refine WL.assign _ rfl (by decide) rfl ?_ | refine WL.cv28_53 rfl (by decide) rfl ?_)
      exact QE.cut () trivial (.cons rfl (.eq rfl (congrArg _ (x4 l wk er hby)) .nil)) (.refl _)
    · repeat (first | refine WC.seq ?_ | refine WC.region ?_ | refine WC.block ?_ | refine WL.nil ?_ | with_reducible refine QE.then_n ?_ | refine WC.cond_f rfl ?_ | refine WL.move _ rfl (by decide) rfl ?_ | refine WL.assign _ rfl (by decide) rfl ?_ | refine WL.bin _ _ _ rfl (by decide) rfl rfl (fun _ => rfl) ?_ | refine WL.nilc _ rfl (by decide) rfl ?_ | refine WL.fd96_0 rfl (by decide) rfl ?_ | refine WL.ld68 0 rfl (by decide) rfl rfl rfl ?_)
      refine WL.call [] [] [pt rg] _ _ [.blk cg [pt rg, .slice none 0 0, .bool bad] 96, .blk g cs tb] (get8_con rg c wk A l er hwk hln) rfl (by decide) rfl Try.func46 rfl rfl rfl rfl (List.perm_middle (l₁ := [_, _])) (fun _ _ => trivial) ?_
      rintro r H1 ⟨rfl, rfl⟩
      unfold rd
      refine WL.perm _ (List.perm_middle (l₁ := [_, _])).symm ?_
      repeat (first | refine WL.nil ?_ | with_reducible refine QE.blk_n ?_ | refine WL.assign _ rfl (by decide) rfl ?_)
      exact QE.cut () trivial (.cons rfl (.eq rfl (congrArg _ (x8 l wk er hby)) .nil)) (.refl _)
set_option maxHeartbeats 4000000 in
set_option maxRecDepth 100000 in
theorem one83_w (A : Option Addr) (c : Nat) (out : List Int) (bad : Bool) (cg g tb j W : Nat) (hW : W = 1 ∨ W = 2 ∨ W = 4 ∨ W = 8) (cs : List Value) (v : Int) (hj : cs[j]? = some (.int .i64 v)) (hr : room 8 (.w A c out bad)) :
    Con Try.prog 83 #[pt cg, .int .i64 W, .pointer (some ⟨g, j, none⟩)] (carH cg (.w A c out bad) ++ [.blk g cs tb]) (fun _ => True) (oneC cg g tb W .i64 (.w A c out bad) cs j v) := by
  refine Con.intro Try.func83 rfl Try.ntmps83 rfl (fun w _ => ?_)
  simp only [carH, pt, List.cons_append, List.nil_append]
  repeat (first | refine WC.seq ?_ | refine WC.region ?_ | refine WL.nil ?_ | with_reducible refine QE.then_n ?_ | refine WC.cond_t rfl ?_ | refine WL.move _ rfl (by decide) rfl ?_ | refine WL.bin _ _ _ rfl (by decide) rfl rfl (fun _ => rfl) ?_ | refine WL.nilc _ rfl (by decide) rfl ?_ | refine WL.fd96_0 rfl (by decide) rfl ?_ | refine WL.ld68 0 rfl (by decide) rfl rfl rfl ?_)
  have hr' : out.length + 8 ≤ 140737488355328 := hr
  have hx0 := wrap_u64 v
  refine WL.ld2 2 rfl (by decide) rfl rfl hj ?_
  repeat (first | refine WL.nil ?_ | with_reducible refine QE.then_n ?_ | refine WL.assign _ rfl (by decide) rfl ?_ | refine WL.cv2_53 rfl (by decide) rfl ?_)
  obtain ⟨x, hx⟩ : ∃ x, IntKind.u64.wrap v = x := ⟨_, rfl⟩
  rw [hx] at hx0 ⊢
  refine WC.cut (σ := Unit) (fun _ => [(0, pt cg), (1, .int .i64 W), (6, .int .u64 x)]) (fun _ => [.blk cg [.pointer none, .slice A out.length c, .bool (bad || nofit W x)] 96, .row (.slice A out.length c) 5 1 out.length (b8 out), .blk g cs tb]) (fun _ => True) ?_ ?_
  · rintro _ _
    unfold pt
    repeat (first | refine WC.seq ?_ | refine WC.region ?_ | refine WC.block ?_ | refine WL.move _ rfl (by decide) rfl ?_ | refine WL.assign _ rfl (by decide) rfl ?_ | refine WL.bin _ _ _ rfl (by decide) rfl rfl (fun _ => rfl) ?_)
    have hW8 : W ≤ 8 := by omega
    refine WC.loop (σ := Nat × Option Addr × Nat × List Int) (fun s => [(7, .int .i64 ((s.1 : Int) - 1)), (0, .pointer (some ⟨cg, 0, none⟩)), (6, .int .u64 x)])
      (fun s => [.blk cg [.pointer none, .slice s.2.1 (out ++ s.2.2.2).length s.2.2.1, .bool (bad || nofit W x)] 96, .row (.slice s.2.1 (out ++ s.2.2.2).length s.2.2.1) 5 1 (out ++ s.2.2.2).length (b8 (out ++ s.2.2.2)), .blk g cs tb])
      (fun s => s.2.2.2 ++ beB s.1 x = beB W x ∧ s.2.2.2.length + s.1 = W) (fun s => s.1) (W, A, c, []) ⟨rfl, by simp⟩ (.eq rfl (congrArg _ (wr_i64 (by omega) (by omega))) (.cons rfl (.cons rfl .nil))) (by simp) ?_
    rintro ⟨r, A1, c1, dn⟩ ⟨h1, h2⟩
    dsimp only at h1 h2 ⊢
    have hlo : (out ++ dn).length + r ≤ 140737488355328 := by rw [List.length_append]; omega
    repeat (first | refine WC.seq ?_ | refine WC.region ?_ | refine WL.nil ?_ | with_reducible refine QE.then_n ?_ | refine WL.move _ rfl (by decide) rfl ?_ | refine WL.bin _ _ _ rfl (by decide) rfl rfl (fun _ => rfl) ?_)
    refine WC.cond _ rfl (fun hb => ?_) (fun hb => ?_)
    · have hb : (r : Int) - 1 ≥ 0 := of_decide_eq_true hb
      obtain ⟨r, rfl⟩ : ∃ q, r = q + 1 := ⟨r - 1, by omega⟩
      refine WC.know (.int .i64 (r : Int)) (s := 7) rfl (congrArg _ (by omega)) ?_
      repeat (first | refine WC.seq ?_ | refine WC.block ?_ | refine WC.skip ?_)
      refine WC.draw 15 #[false, false, false, false, false, false, false, false, false, false, false, false, false, false, false] [.blk cg [.pointer none, .slice A1 (out ++ dn).length c1, .bool (or bad (nofit W x))] 96] [11, 14] (by kernel_rfl) rfl rfl (by repeat (first | exact List.Sublist.refl _ | exact List.nil_sublist _ | refine List.Sublist.cons_cons _ ?_ | refine List.Sublist.cons _ ?_)) ?_
      refine WA.move 0 #[true, false, false, false, false, false, false, false, false, false, false, false, false, false, false] _ rfl rfl rfl (by decide) (by kernel_rfl) (by repeat (first | with_reducible refine Qp.then ?_ | with_reducible refine Qp.blk ?_ | with_reducible exact Qp.body)) ?_
      refine WA.move 1 #[true, true, false, false, false, false, false, false, false, false, false, false, false, false, false] _ rfl rfl rfl (by decide) (by kernel_rfl) (by repeat (first | with_reducible refine Qp.then ?_ | with_reducible refine Qp.blk ?_ | with_reducible exact Qp.body)) ?_
      refine WA.nilc 2 #[true, true, true, false, false, false, false, false, false, false, false, false, false, false, false] _ rfl rfl rfl (by decide) (by kernel_rfl) (by repeat (first | with_reducible refine Qp.then ?_ | with_reducible refine Qp.blk ?_ | with_reducible exact Qp.body)) ?_
      refine WA.faddr 3 #[true, true, true, true, false, false, false, false, false, false, false, false, false, false, false] _ _ rfl (fa96_1 _ _) rfl rfl (by decide) (by kernel_rfl) (by repeat (first | with_reducible refine Qp.then ?_ | with_reducible refine Qp.blk ?_ | with_reducible exact Qp.body)) ?_
      refine WA.load 4 #[true, true, true, true, true, false, false, false, false, false, false, false, false, false, false] 0 _ _ _ _ _ rfl rfl (by decide) (by repeat (first | exact List.Sublist.refl _ | exact List.nil_sublist _ | refine List.Sublist.cons_cons _ ?_ | refine List.Sublist.cons _ ?_)) (by kernel_rfl) (by repeat (first | with_reducible refine Qp.then ?_ | with_reducible refine Qp.blk ?_ | with_reducible exact Qp.body)) rfl agg39 rfl rfl ?_
      refine WA.move 5 #[true, true, true, true, true, true, false, false, false, false, false, false, false, false, false] _ rfl rfl rfl (by decide) (by kernel_rfl) (by repeat (first | with_reducible refine Qp.then ?_ | with_reducible refine Qp.blk ?_ | with_reducible exact Qp.body)) ?_
      refine WA.move 6 #[true, true, true, true, true, true, true, false, false, false, false, false, false, false, false] _ rfl rfl rfl (by decide) (by kernel_rfl) (by repeat (first | with_reducible refine Qp.then ?_ | with_reducible refine Qp.blk ?_ | with_reducible exact Qp.body)) ?_
      refine WA.bin 7 #[true, true, true, true, true, true, true, true, false, false, false, false, false, false, false] _ _ _ rfl rfl (fun _ => rfl) rfl rfl (by decide) (by kernel_rfl) (by repeat (first | with_reducible refine Qp.then ?_ | with_reducible refine Qp.blk ?_ | with_reducible exact Qp.body)) ?_
      refine WA.bin 8 #[true, true, true, true, true, true, true, true, true, false, false, false, false, false, false] _ _ _ rfl rfl (run_shr .u64 .i64 x _ (by rw [wr_i64] <;> omega)) rfl rfl (by decide) (by kernel_rfl) (by repeat (first | with_reducible refine Qp.then ?_ | with_reducible refine Qp.blk ?_ | with_reducible exact Qp.body)) ?_
      refine WA.know (.int .u64 (x / 256 ^ r)) (s := 50) rfl (congrArg _ (sh8 x r hx0 (by omega))) ?_
      refine WA.conv 9 #[true, true, true, true, true, true, true, true, true, true, false, false, false, false, false] _ _ rfl (run_conv _ _ _ Try.underlying53 Try.underlying5) rfl rfl (by decide) (by kernel_rfl) (by repeat (first | with_reducible refine Qp.then ?_ | with_reducible refine Qp.blk ?_ | with_reducible exact Qp.body)) ?_
      refine WA.buildS 10 #[true, true, true, true, true, true, true, true, true, true, true, false, false, false, false] 1 5 1 [(0, .int .u8 (IntKind.u8.wrap (x / 256 ^ r)))] [.int .u8 (IntKind.u8.wrap (x / 256 ^ r))] rfl rfl (by decide) (by kernel_rfl) rfl (by repeat (first | exact List.Sublist.refl _ | exact List.nil_sublist _ | refine List.Sublist.cons_cons _ ?_ | refine List.Sublist.cons _ ?_)) rfl rfl rfl (fun w => by kernel_rfl) (fun gb => ?_)
      refine WA.append 11 #[true, true, true, true, true, true, true, true, true, true, true, true, false, false, false] 2 5 1 1 (out ++ dn).length 1 1 (.int .u8 0) _ _ (b8 (out ++ dn)) [.int .u8 (IntKind.u8.wrap (x / 256 ^ r))] rfl rfl (by decide) (by kernel_rfl) rfl rfl rfl Try.underlying39 info5 rfl (by decide) rfl (fun w hI => row_reads hI (i := 0) rfl) (by simp [Value.oneCell']) (by omega) (by omega) (fun A2 c2 => ?_)
      refine WA.nilc 12 #[true, true, true, true, true, true, true, true, true, true, true, true, true, false, false] _ rfl rfl rfl (by decide) (by kernel_rfl) (by repeat (first | with_reducible refine Qp.then ?_ | with_reducible refine Qp.blk ?_ | with_reducible exact Qp.body)) ?_
      refine WA.faddr 13 #[true, true, true, true, true, true, true, true, true, true, true, true, true, true, false] _ _ rfl (fa96_1 _ _) rfl rfl (by decide) (by kernel_rfl) (by repeat (first | with_reducible refine Qp.then ?_ | with_reducible refine Qp.blk ?_ | with_reducible exact Qp.body)) ?_
      refine WA.store 14 #[true, true, true, true, true, true, true, true, true, true, true, true, true, true, true] 1 cg 1 _ _ _ _ _ rfl rfl (by kernel_rfl) rfl rfl rfl rfl rfl size39 rfl rfl rfl ?_
      refine WA.done (by kernel_rfl) ?_
      repeat (first | refine WC.region ?_ | refine WL.nil ?_ | refine WL.move _ rfl (by decide) rfl ?_ | refine WL.assign _ rfl (by decide) rfl ?_ | refine WL.bin _ _ _ rfl (by decide) rfl rfl (fun _ => rfl) ?_)
      refine QE.round (r, A2, c2, dn ++ [IntKind.u8.wrap (x / 256 ^ r)]) ⟨?_, by simp; omega⟩ (Nat.lt_succ_self _) (.eq rfl (congrArg _ (wr_i64 (by omega) (by omega))) (.cons rfl (.cons rfl .nil))) ?_
      · rw [← h1, wr_u8]
        simp only [beB, List.append_assoc, List.cons_append, List.nil_append, beB_mod]
      · rw [← List.append_assoc, List.length_append (bs := [_]), show b8 ((out ++ dn) ++ [IntKind.u8.wrap (x / 256 ^ r)]) = b8 (out ++ dn) ++ [.int .u8 (IntKind.u8.wrap (x / 256 ^ r))] by simp [b8]]
        exact .cons _ (.refl _)
    · have hb := of_decide_eq_false hb
      obtain rfl : r = 0 := by omega
      obtain rfl : dn = beB W x := by simpa [beB] using h1
      repeat (first | refine WC.exit ?_ | refine WC.ret ?_ | with_reducible refine QE.then_r ?_)
      refine QE.ret0 _ rfl (.refl _) ⟨rfl, .w A1 c1 (out ++ beB W x) (bad || nofit W x), v, ⟨rfl, A1, c1, by rw [hx]⟩, ?_⟩
      rw [set_same hj]
      rfl
  · cases bad
    · repeat (first | refine WC.region ?_ | refine WL.move _ rfl (by decide) rfl ?_ | refine WL.bin _ _ _ rfl (by decide) rfl rfl (fun _ => rfl) ?_ | refine WL.nilc _ rfl (by decide) rfl ?_ | refine WL.fd96_2 rfl (by decide) rfl ?_ | refine WL.ld4 0 rfl (by decide) rfl rfl rfl ?_)
      refine WL.split 26 _ rfl (fun h8 => ?_) (fun h8 => ?_)
      · have h8 : (W : Int) < 8 := of_decide_eq_true h8
        repeat (first | refine WL.move _ rfl (by decide) rfl ?_ | refine WL.bin _ _ _ rfl (by decide) rfl rfl (fun _ => rfl) ?_)
        refine WL.shr .u64 .i64 x _ (x / 256 ^ W) rfl (by decide) rfl rfl (by rw [wr_i64] <;> omega) (sh8 x W hx0 (by omega)) ?_
        repeat (first | refine WL.nil ?_ | refine WL.bin _ _ _ rfl (by decide) rfl rfl (fun _ => rfl) ?_ | refine WL.nilc _ rfl (by decide) rfl ?_ | refine WL.pick _ _ rfl (by decide) rfl rfl ?_ | refine WL.fd96_2 rfl (by decide) rfl ?_ | refine WL.st4 0 rfl rfl rfl rfl rfl rfl rfl rfl rfl ?_)
        exact QE.cut () trivial (.cons rfl (.cons rfl (.cons rfl .nil))) (by rw [show nofit W x = !decide (x / 256 ^ W = 0) by simp [nofit, show W < 8 by omega]]; exact .refl _)
      · have h8 : ¬ (W : Int) < 8 := of_decide_eq_false h8
        repeat (first | refine WL.nil ?_ | refine WL.nilc _ rfl (by decide) rfl ?_ | refine WL.off rfl (by decide) ?_ | refine WL.pick _ _ rfl (by decide) rfl rfl ?_ | refine WL.fd96_2 rfl (by decide) rfl ?_ | refine WL.st4 0 rfl rfl rfl rfl rfl rfl rfl rfl rfl ?_)
        exact QE.cut () trivial (.cons rfl (.cons rfl (.cons rfl .nil))) (by rw [show nofit W x = false by simp [nofit]; omega]; exact .refl _)
    · repeat (first | refine WC.region ?_ | refine WL.nil ?_ | refine WL.move _ rfl (by decide) rfl ?_ | refine WL.nilc _ rfl (by decide) rfl ?_ | refine WL.off rfl (by decide) ?_ | refine WL.pick _ _ rfl (by decide) rfl rfl ?_ | refine WL.offu rfl (by decide) ?_ | refine WL.fd96_2 rfl (by decide) rfl ?_ | refine WL.ld4 0 rfl (by decide) rfl rfl rfl ?_ | refine WL.st4 0 rfl rfl rfl rfl rfl rfl rfl rfl rfl ?_)
      exact QE.cut () trivial (.cons rfl (.cons rfl (.cons rfl .nil))) (.refl _)
set_option maxHeartbeats 4000000 in
set_option maxRecDepth 100000 in
theorem one83_r (rg : Nat) (A : Option Addr) (c : Nat) (l : List Int) (wk : Nat) (er : Int) (bad : Bool) (cg g tb j W : Nat) (hW : W = 1 ∨ W = 2 ∨ W = 4 ∨ W = 8) (cs : List Value) (v : Int) (hj : cs[j]? = some (.int .i64 v)) (hr : room 8 (.r rg A c l wk er bad)) :
    Con Try.prog 83 #[pt cg, .int .i64 W, .pointer (some ⟨g, j, none⟩)] (carH cg (.r rg A c l wk er bad) ++ [.blk g cs tb]) (fun _ => True) (oneC cg g tb W .i64 (.r rg A c l wk er bad) cs j v) := by
  refine Con.intro Try.func83 rfl Try.ntmps83 rfl (fun w _ => ?_)
  simp only [carH, pt, List.cons_append, List.nil_append]
  obtain ⟨hwk, hln, hby, her⟩ := hr
  have hj1 : j < cs.length := (List.getElem?_eq_some_iff.1 hj).1
  skip
  refine WC.seq ?_
  skip
  refine WC.seq ?_
  repeat (first | refine WC.region ?_ | refine WC.skip ?_ | refine WL.nil ?_ | with_reducible refine QE.then_n ?_ | refine WC.cond_f rfl ?_ | refine WL.move _ rfl (by decide) rfl ?_ | refine WL.bin _ _ _ rfl (by decide) rfl rfl (fun _ => rfl) ?_ | refine WL.nilc _ rfl (by decide) rfl ?_ | refine WL.fd96_0 rfl (by decide) rfl ?_ | refine WL.ld68 0 rfl (by decide) rfl rfl rfl ?_)
  refine WC.seq ?_
  repeat (first | refine WC.region ?_ | refine WL.nil ?_ | with_reducible refine QE.then_n ?_ | refine WL.assign _ rfl (by decide) rfl ?_)
  refine WC.cut (σ := Unit) (fun _ => [(2, .pointer (some ⟨g, j, none⟩)), (8, .int .u64 (beU (tkR l wk er W)))]) (fun _ => [.blk cg [pt rg, .slice none 0 0, .bool bad] 96, .blk rg [.slice A l.length c, .int .i64 (wkR l.length wk er W), .int .i64 (erR l.length wk er W)] 109, .row (.slice A l.length c) 5 1 l.length (b8 l), .blk g cs tb]) (fun _ => True) ?_ ?_
  · rintro _ _
    unfold pt
    repeat (first | refine WC.region ?_ | refine WL.move _ rfl (by decide) rfl ?_ | refine WL.nilc _ rfl (by decide) rfl ?_ | refine WL.cv53_2 rfl (by decide) rfl ?_)
    refine WL.st2 3 (cs := cs) (v := .int .i64 (IntKind.i64.wrap (beU (tkR l wk er W)))) rfl rfl rfl rfl rfl rfl rfl (Nat.ble_eq_true_of_le hj1) (putc_set cs j _ hj1) ?_
    repeat (refine WL.nil ?_)
    exact QE.end0 _ rfl (.refl _) ⟨rfl, .r rg A c l (wkR l.length wk er W) (erR l.length wk er W) bad, _, ⟨rfl, rfl⟩, rfl⟩
  · rcases hW with rfl | rfl | rfl | rfl
    · repeat (first | refine WC.seq ?_ | refine WC.region ?_ | refine WC.block ?_ | refine WL.nil ?_ | with_reducible refine QE.then_n ?_ | refine WC.cond_t rfl ?_ | refine WL.move _ rfl (by decide) rfl ?_ | refine WL.assign _ rfl (by decide) rfl ?_ | refine WL.bin _ _ _ rfl (by decide) rfl rfl (fun _ => rfl) ?_ | refine WL.nilc _ rfl (by decide) rfl ?_ | refine WL.fd96_0 rfl (by decide) rfl ?_ | refine WL.ld68 0 rfl (by decide) rfl rfl rfl ?_)
      refine WL.call [] [] [pt rg] _ _ [.blk cg [pt rg, .slice none 0 0, .bool bad] 96, .blk g cs tb] (get1_con rg c wk A l er hwk hln) rfl (by decide) rfl Try.func42 rfl rfl rfl rfl (List.perm_middle (l₁ := [_, _])) (fun _ _ => trivial) ?_
      rintro r H1 ⟨rfl, rfl⟩
      unfold rd
      refine WL.perm _ (List.perm_middle (l₁ := [_, _])).symm ?_
      repeat (first | refine WL.nil ?_ | with_reducible refine QE.blk_n ?_ | refine WL.assign _ rfl (by decide) rfl ?_ | refine WL.cv5_53 rfl (by decide) rfl ?_)
      exact QE.cut () trivial (.cons rfl (.eq rfl (congrArg _ (x1 l wk er hby)) .nil)) (.refl _)
    · repeat (first | refine WC.seq ?_ | refine WC.region ?_ | refine WC.block ?_ | refine WL.nil ?_ | with_reducible refine QE.then_n ?_ | refine WC.cond_t rfl ?_ | refine WC.cond_f rfl ?_ | refine WL.move _ rfl (by decide) rfl ?_ | refine WL.assign _ rfl (by decide) rfl ?_ | refine WL.bin _ _ _ rfl (by decide) rfl rfl (fun _ => rfl) ?_ | refine WL.nilc _ rfl (by decide) rfl ?_ | refine WL.fd96_0 rfl (by decide) rfl ?_ | refine WL.ld68 0 rfl (by decide) rfl rfl rfl ?_)
      refine WL.call [] [] [pt rg] _ _ [.blk cg [pt rg, .slice none 0 0, .bool bad] 96, .blk g cs tb] (get2_con rg c wk A l er hwk hln) rfl (by decide) rfl Try.func44 rfl rfl rfl rfl (List.perm_middle (l₁ := [_, _])) (fun _ _ => trivial) ?_
      rintro r H1 ⟨rfl, rfl⟩
      unfold rd
      refine WL.perm _ (List.perm_middle (l₁ := [_, _])).symm ?_
      repeat (first | refine WL.nil ?_ | with_reducible refine QE.blk_n ?_ | refine WL.assign _ rfl (by decide) rfl ?_ | refine WL.cv55_53 rfl (by decide) rfl ?_)
      exact QE.cut () trivial (.cons rfl (.eq rfl (congrArg _ (x2 l wk er hby)) .nil)) (.refl _)
    · repeat (first | refine WC.seq ?_ | refine WC.region ?_ | refine WC.block ?_ | refine WL.nil ?_ | with_reducible refine QE.then_n ?_ | refine WC.cond_t rfl ?_ | refine WC.cond_f rfl ?_ | refine WL.move _ rfl (by decide) rfl ?_ | refine WL.assign _ rfl (by decide) rfl ?_ | refine WL.bin _ _ _ rfl (by decide) rfl rfl (fun _ => rfl) ?_ | refine WL.nilc _ rfl (by decide) rfl ?_ | refine WL.fd96_0 rfl (by decide) rfl ?_ | refine WL.ld68 0 rfl (by decide) rfl rfl rfl ?_)
      refine WL.call [] [] [pt rg] _ _ [.blk cg [pt rg, .slice none 0 0, .bool bad] 96, .blk g cs tb] (get4_con rg c wk A l er hwk hln) rfl (by decide) rfl Try.func45 rfl rfl rfl rfl (List.perm_middle (l₁ := [_, _])) (fun _ _ => trivial) ?_
      rintro r H1 ⟨rfl, rfl⟩
      unfold rd
      refine WL.perm _ (List.perm_middle (l₁ := [_, _])).symm ?_
      repeat (first | refine WL.nil ?_ | with_reducible refine QE.blk_n ?_ | refine WL.assign _ rfl (by decide) rfl ?_ | refine WL.cv28_53 rfl (by decide) rfl ?_)
      exact QE.cut () trivial (.cons rfl (.eq rfl (congrArg _ (x4 l wk er hby)) .nil)) (.refl _)
    · repeat (first | refine WC.seq ?_ | refine WC.region ?_ | refine WC.block ?_ | refine WL.nil ?_ | with_reducible refine QE.then_n ?_ | refine WC.cond_f rfl ?_ | refine WL.move _ rfl (by decide) rfl ?_ | refine WL.assign _ rfl (by decide) rfl ?_ | refine WL.bin _ _ _ rfl (by decide) rfl rfl (fun _ => rfl) ?_ | refine WL.nilc _ rfl (by decide) rfl ?_ | refine WL.fd96_0 rfl (by decide) rfl ?_ | refine WL.ld68 0 rfl (by decide) rfl rfl rfl ?_)
      refine WL.call [] [] [pt rg] _ _ [.blk cg [pt rg, .slice none 0 0, .bool bad] 96, .blk g cs tb] (get8_con rg c wk A l er hwk hln) rfl (by decide) rfl Try.func46 rfl rfl rfl rfl (List.perm_middle (l₁ := [_, _])) (fun _ _ => trivial) ?_
      rintro r H1 ⟨rfl, rfl⟩
      unfold rd
      refine WL.perm _ (List.perm_middle (l₁ := [_, _])).symm ?_
      repeat (first | refine WL.nil ?_ | with_reducible refine QE.blk_n ?_ | refine WL.assign _ rfl (by decide) rfl ?_)
      exact QE.cut () trivial (.cons rfl (.eq rfl (congrArg _ (x8 l wk er hby)) .nil)) (.refl _)
set_option maxHeartbeats 4000000 in
set_option maxRecDepth 100000 in
theorem one102_w (A : Option Addr) (c : Nat) (out : List Int) (bad : Bool) (cg g tb j W : Nat) (hW : W = 1 ∨ W = 2 ∨ W = 4 ∨ W = 8) (cs : List Value) (v : Int) (hj : cs[j]? = some (.int .u32 v)) (hr : room 8 (.w A c out bad)) :
    Con Try.prog 102 #[pt cg, .int .i64 W, .pointer (some ⟨g, j, none⟩)] (carH cg (.w A c out bad) ++ [.blk g cs tb]) (fun _ => True) (oneC cg g tb W .u32 (.w A c out bad) cs j v) := by
  refine Con.intro Try.func102 rfl Try.ntmps102 rfl (fun w _ => ?_)
  simp only [carH, pt, List.cons_append, List.nil_append]
  repeat (first | refine WC.seq ?_ | refine WC.region ?_ | refine WL.nil ?_ | with_reducible refine QE.then_n ?_ | refine WC.cond_t rfl ?_ | refine WL.move _ rfl (by decide) rfl ?_ | refine WL.bin _ _ _ rfl (by decide) rfl rfl (fun _ => rfl) ?_ | refine WL.nilc _ rfl (by decide) rfl ?_ | refine WL.fd96_0 rfl (by decide) rfl ?_ | refine WL.ld68 0 rfl (by decide) rfl rfl rfl ?_)
  have hr' : out.length + 8 ≤ 140737488355328 := hr
  have hx0 := wrap_u64 v
  refine WL.ld29 2 rfl (by decide) rfl rfl hj ?_
  repeat (first | refine WL.nil ?_ | with_reducible refine QE.then_n ?_ | refine WL.assign _ rfl (by decide) rfl ?_ | refine WL.cv29_53 rfl (by decide) rfl ?_)
  obtain ⟨x, hx⟩ : ∃ x, IntKind.u64.wrap v = x := ⟨_, rfl⟩
  rw [hx] at hx0 ⊢
  refine WC.cut (σ := Unit) (fun _ => [(0, pt cg), (1, .int .i64 W), (6, .int .u64 x)]) (fun _ => [.blk cg [.pointer none, .slice A out.length c, .bool (bad || nofit W x)] 96, .row (.slice A out.length c) 5 1 out.length (b8 out), .blk g cs tb]) (fun _ => True) ?_ ?_
  · rintro _ _
    unfold pt
    repeat (first | refine WC.seq ?_ | refine WC.region ?_ | refine WC.block ?_ | refine WL.move _ rfl (by decide) rfl ?_ | refine WL.assign _ rfl (by decide) rfl ?_ | refine WL.bin _ _ _ rfl (by decide) rfl rfl (fun _ => rfl) ?_)
    have hW8 : W ≤ 8 := by omega
    refine WC.loop (σ := Nat × Option Addr × Nat × List Int) (fun s => [(7, .int .i64 ((s.1 : Int) - 1)), (0, .pointer (some ⟨cg, 0, none⟩)), (6, .int .u64 x)])
      (fun s => [.blk cg [.pointer none, .slice s.2.1 (out ++ s.2.2.2).length s.2.2.1, .bool (bad || nofit W x)] 96, .row (.slice s.2.1 (out ++ s.2.2.2).length s.2.2.1) 5 1 (out ++ s.2.2.2).length (b8 (out ++ s.2.2.2)), .blk g cs tb])
      (fun s => s.2.2.2 ++ beB s.1 x = beB W x ∧ s.2.2.2.length + s.1 = W) (fun s => s.1) (W, A, c, []) ⟨rfl, by simp⟩ (.eq rfl (congrArg _ (wr_i64 (by omega) (by omega))) (.cons rfl (.cons rfl .nil))) (by simp) ?_
    rintro ⟨r, A1, c1, dn⟩ ⟨h1, h2⟩
    dsimp only at h1 h2 ⊢
    have hlo : (out ++ dn).length + r ≤ 140737488355328 := by rw [List.length_append]; omega
    repeat (first | refine WC.seq ?_ | refine WC.region ?_ | refine WL.nil ?_ | with_reducible refine QE.then_n ?_ | refine WL.move _ rfl (by decide) rfl ?_ | refine WL.bin _ _ _ rfl (by decide) rfl rfl (fun _ => rfl) ?_)
    refine WC.cond _ rfl (fun hb => ?_) (fun hb => ?_)
    · have hb : (r : Int) - 1 ≥ 0 := of_decide_eq_true hb
      obtain ⟨r, rfl⟩ : ∃ q, r = q + 1 := ⟨r - 1, by omega⟩
      refine WC.know (.int .i64 (r : Int)) (s := 7) rfl (congrArg _ (by omega)) ?_
      repeat (first | refine WC.seq ?_ | refine WC.block ?_ | refine WC.skip ?_)
      refine WC.draw 15 #[false, false, false, false, false, false, false, false, false, false, false, false, false, false, false] [.blk cg [.pointer none, .slice A1 (out ++ dn).length c1, .bool (or bad (nofit W x))] 96] [11, 14] (by kernel_rfl) rfl rfl (by repeat (first | exact List.Sublist.refl _ | exact List.nil_sublist _ | refine List.Sublist.cons_cons _ ?_ | refine List.Sublist.cons _ ?_)) ?_
      refine WA.move 0 #[true, false, false, false, false, false, false, false, false, false, false, false, false, false, false] _ rfl rfl rfl (by decide) (by kernel_rfl) (by repeat (first | with_reducible refine Qp.then ?_ | with_reducible refine Qp.blk ?_ | with_reducible exact Qp.body)) ?_
      refine WA.move 1 #[true, true, false, false, false, false, false, false, false, false, false, false, false, false, false] _ rfl rfl rfl (by decide) (by kernel_rfl) (by repeat (first | with_reducible refine Qp.then ?_ | with_reducible refine Qp.blk ?_ | with_reducible exact Qp.body)) ?_
      refine WA.nilc 2 #[true, true, true, false, false, false, false, false, false, false, false, false, false, false, false] _ rfl rfl rfl (by decide) (by kernel_rfl) (by repeat (first | with_reducible refine Qp.then ?_ | with_reducible refine Qp.blk ?_ | with_reducible exact Qp.body)) ?_
      refine WA.faddr 3 #[true, true, true, true, false, false, false, false, false, false, false, false, false, false, false] _ _ rfl (fa96_1 _ _) rfl rfl (by decide) (by kernel_rfl) (by repeat (first | with_reducible refine Qp.then ?_ | with_reducible refine Qp.blk ?_ | with_reducible exact Qp.body)) ?_
      refine WA.load 4 #[true, true, true, true, true, false, false, false, false, false, false, false, false, false, false] 0 _ _ _ _ _ rfl rfl (by decide) (by repeat (first | exact List.Sublist.refl _ | exact List.nil_sublist _ | refine List.Sublist.cons_cons _ ?_ | refine List.Sublist.cons _ ?_)) (by kernel_rfl) (by repeat (first | with_reducible refine Qp.then ?_ | with_reducible refine Qp.blk ?_ | with_reducible exact Qp.body)) rfl agg39 rfl rfl ?_
      refine WA.move 5 #[true, true, true, true, true, true, false, false, false, false, false, false, false, false, false] _ rfl rfl rfl (by decide) (by kernel_rfl) (by repeat (first | with_reducible refine Qp.then ?_ | with_reducible refine Qp.blk ?_ | with_reducible exact Qp.body)) ?_
      refine WA.move 6 #[true, true, true, true, true, true, true, false, false, false, false, false, false, false, false] _ rfl rfl rfl (by decide) (by kernel_rfl) (by repeat (first | with_reducible refine Qp.then ?_ | with_reducible refine Qp.blk ?_ | with_reducible exact Qp.body)) ?_
      refine WA.bin 7 #[true, true, true, true, true, true, true, true, false, false, false, false, false, false, false] _ _ _ rfl rfl (fun _ => rfl) rfl rfl (by decide) (by kernel_rfl) (by repeat (first | with_reducible refine Qp.then ?_ | with_reducible refine Qp.blk ?_ | with_reducible exact Qp.body)) ?_
      refine WA.bin 8 #[true, true, true, true, true, true, true, true, true, false, false, false, false, false, false] _ _ _ rfl rfl (run_shr .u64 .i64 x _ (by rw [wr_i64] <;> omega)) rfl rfl (by decide) (by kernel_rfl) (by repeat (first | with_reducible refine Qp.then ?_ | with_reducible refine Qp.blk ?_ | with_reducible exact Qp.body)) ?_
      refine WA.know (.int .u64 (x / 256 ^ r)) (s := 50) rfl (congrArg _ (sh8 x r hx0 (by omega))) ?_
      refine WA.conv 9 #[true, true, true, true, true, true, true, true, true, true, false, false, false, false, false] _ _ rfl (run_conv _ _ _ Try.underlying53 Try.underlying5) rfl rfl (by decide) (by kernel_rfl) (by repeat (first | with_reducible refine Qp.then ?_ | with_reducible refine Qp.blk ?_ | with_reducible exact Qp.body)) ?_
      refine WA.buildS 10 #[true, true, true, true, true, true, true, true, true, true, true, false, false, false, false] 1 5 1 [(0, .int .u8 (IntKind.u8.wrap (x / 256 ^ r)))] [.int .u8 (IntKind.u8.wrap (x / 256 ^ r))] rfl rfl (by decide) (by kernel_rfl) rfl (by repeat (first | exact List.Sublist.refl _ | exact List.nil_sublist _ | refine List.Sublist.cons_cons _ ?_ | refine List.Sublist.cons _ ?_)) rfl rfl rfl (fun w => by kernel_rfl) (fun gb => ?_)
      refine WA.append 11 #[true, true, true, true, true, true, true, true, true, true, true, true, false, false, false] 2 5 1 1 (out ++ dn).length 1 1 (.int .u8 0) _ _ (b8 (out ++ dn)) [.int .u8 (IntKind.u8.wrap (x / 256 ^ r))] rfl rfl (by decide) (by kernel_rfl) rfl rfl rfl Try.underlying39 info5 rfl (by decide) rfl (fun w hI => row_reads hI (i := 0) rfl) (by simp [Value.oneCell']) (by omega) (by omega) (fun A2 c2 => ?_)
      refine WA.nilc 12 #[true, true, true, true, true, true, true, true, true, true, true, true, true, false, false] _ rfl rfl rfl (by decide) (by kernel_rfl) (by repeat (first | with_reducible refine Qp.then ?_ | with_reducible refine Qp.blk ?_ | with_reducible exact Qp.body)) ?_
      refine WA.faddr 13 #[true, true, true, true, true, true, true, true, true, true, true, true, true, true, false] _ _ rfl (fa96_1 _ _) rfl rfl (by decide) (by kernel_rfl) (by repeat (first | with_reducible refine Qp.then ?_ | with_reducible refine Qp.blk ?_ | with_reducible exact Qp.body)) ?_
      refine WA.store 14 #[true, true, true, true, true, true, true, true, true, true, true, true, true, true, true] 1 cg 1 _ _ _ _ _ rfl rfl (by kernel_rfl) rfl rfl rfl rfl rfl size39 rfl rfl rfl ?_
      refine WA.done (by kernel_rfl) ?_
      repeat (first | refine WC.region ?_ | refine WL.nil ?_ | refine WL.move _ rfl (by decide) rfl ?_ | refine WL.assign _ rfl (by decide) rfl ?_ | refine WL.bin _ _ _ rfl (by decide) rfl rfl (fun _ => rfl) ?_)
      refine QE.round (r, A2, c2, dn ++ [IntKind.u8.wrap (x / 256 ^ r)]) ⟨?_, by simp; omega⟩ (Nat.lt_succ_self _) (.eq rfl (congrArg _ (wr_i64 (by omega) (by omega))) (.cons rfl (.cons rfl .nil))) ?_
      · rw [← h1, wr_u8]
        simp only [beB, List.append_assoc, List.cons_append, List.nil_append, beB_mod]
      · rw [← List.append_assoc, List.length_append (bs := [_]), show b8 ((out ++ dn) ++ [IntKind.u8.wrap (x / 256 ^ r)]) = b8 (out ++ dn) ++ [.int .u8 (IntKind.u8.wrap (x / 256 ^ r))] by simp [b8]]
        exact .cons _ (.refl _)
    · have hb := of_decide_eq_false hb
      obtain rfl : r = 0 := by omega
      obtain rfl : dn = beB W x := by simpa [beB] using h1
      repeat (first | refine WC.exit ?_ | refine WC.ret ?_ | with_reducible refine QE.then_r ?_)
      refine QE.ret0 _ rfl (.refl _) ⟨rfl, .w A1 c1 (out ++ beB W x) (bad || nofit W x), v, ⟨rfl, A1, c1, by rw [hx]⟩, ?_⟩
      rw [set_same hj]
      rfl
  · cases bad
    · repeat (first | refine WC.region ?_ | refine WL.move _ rfl (by decide) rfl ?_ | refine WL.bin _ _ _ rfl (by decide) rfl rfl (fun _ => rfl) ?_ | refine WL.nilc _ rfl (by decide) rfl ?_ | refine WL.fd96_2 rfl (by decide) rfl ?_ | refine WL.ld4 0 rfl (by decide) rfl rfl rfl ?_)
      refine WL.split 26 _ rfl (fun h8 => ?_) (fun h8 => ?_)
      · have h8 : (W : Int) < 8 := of_decide_eq_true h8
        repeat (first | refine WL.move _ rfl (by decide) rfl ?_ | refine WL.bin _ _ _ rfl (by decide) rfl rfl (fun _ => rfl) ?_)
        refine WL.shr .u64 .i64 x _ (x / 256 ^ W) rfl (by decide) rfl rfl (by rw [wr_i64] <;> omega) (sh8 x W hx0 (by omega)) ?_
        repeat (first | refine WL.nil ?_ | refine WL.bin _ _ _ rfl (by decide) rfl rfl (fun _ => rfl) ?_ | refine WL.nilc _ rfl (by decide) rfl ?_ | refine WL.pick _ _ rfl (by decide) rfl rfl ?_ | refine WL.fd96_2 rfl (by decide) rfl ?_ | refine WL.st4 0 rfl rfl rfl rfl rfl rfl rfl rfl rfl ?_)
        exact QE.cut () trivial (.cons rfl (.cons rfl (.cons rfl .nil))) (by rw [show nofit W x = !decide (x / 256 ^ W = 0) by simp [nofit, show W < 8 by omega]]; exact .refl _)
      · have h8 : ¬ (W : Int) < 8 := of_decide_eq_false h8
        repeat (first | refine WL.nil ?_ | refine WL.nilc _ rfl (by decide) rfl ?_ | refine WL.off rfl (by decide) ?_ | refine WL.pick _ _ rfl (by decide) rfl rfl ?_ | refine WL.fd96_2 rfl (by decide) rfl ?_ | refine WL.st4 0 rfl rfl rfl rfl rfl rfl rfl rfl rfl ?_)
        exact QE.cut () trivial (.cons rfl (.cons rfl (.cons rfl .nil))) (by rw [show nofit W x = false by simp [nofit]; omega]; exact .refl _)
    · repeat (first | refine WC.region ?_ | refine WL.nil ?_ | refine WL.move _ rfl (by decide) rfl ?_ | refine WL.nilc _ rfl (by decide) rfl ?_ | refine WL.off rfl (by decide) ?_ | refine WL.pick _ _ rfl (by decide) rfl rfl ?_ | refine WL.offu rfl (by decide) ?_ | refine WL.fd96_2 rfl (by decide) rfl ?_ | refine WL.ld4 0 rfl (by decide) rfl rfl rfl ?_ | refine WL.st4 0 rfl rfl rfl rfl rfl rfl rfl rfl rfl ?_)
      exact QE.cut () trivial (.cons rfl (.cons rfl (.cons rfl .nil))) (.refl _)
set_option maxHeartbeats 4000000 in
set_option maxRecDepth 100000 in
theorem one102_r (rg : Nat) (A : Option Addr) (c : Nat) (l : List Int) (wk : Nat) (er : Int) (bad : Bool) (cg g tb j W : Nat) (hW : W = 1 ∨ W = 2 ∨ W = 4 ∨ W = 8) (cs : List Value) (v : Int) (hj : cs[j]? = some (.int .u32 v)) (hr : room 8 (.r rg A c l wk er bad)) :
    Con Try.prog 102 #[pt cg, .int .i64 W, .pointer (some ⟨g, j, none⟩)] (carH cg (.r rg A c l wk er bad) ++ [.blk g cs tb]) (fun _ => True) (oneC cg g tb W .u32 (.r rg A c l wk er bad) cs j v) := by
  refine Con.intro Try.func102 rfl Try.ntmps102 rfl (fun w _ => ?_)
  simp only [carH, pt, List.cons_append, List.nil_append]
  obtain ⟨hwk, hln, hby, her⟩ := hr
  have hj1 : j < cs.length := (List.getElem?_eq_some_iff.1 hj).1
  skip
  refine WC.seq ?_
  skip
  refine WC.seq ?_
  repeat (first | refine WC.region ?_ | refine WC.skip ?_ | refine WL.nil ?_ | with_reducible refine QE.then_n ?_ | refine WC.cond_f rfl ?_ | refine WL.move _ rfl (by decide) rfl ?_ | refine WL.bin _ _ _ rfl (by decide) rfl rfl (fun _ => rfl) ?_ | refine WL.nilc _ rfl (by decide) rfl ?_ | refine WL.fd96_0 rfl (by decide) rfl ?_ | refine WL.ld68 0 rfl (by decide) rfl rfl rfl ?_)
  refine WC.seq ?_
  repeat (first | refine WC.region ?_ | refine WL.nil ?_ | with_reducible refine QE.then_n ?_ | refine WL.assign _ rfl (by decide) rfl ?_)
  refine WC.cut (σ := Unit) (fun _ => [(2, .pointer (some ⟨g, j, none⟩)), (8, .int .u64 (beU (tkR l wk er W)))]) (fun _ => [.blk cg [pt rg, .slice none 0 0, .bool bad] 96, .blk rg [.slice A l.length c, .int .i64 (wkR l.length wk er W), .int .i64 (erR l.length wk er W)] 109, .row (.slice A l.length c) 5 1 l.length (b8 l), .blk g cs tb]) (fun _ => True) ?_ ?_
  · rintro _ _
    unfold pt
    repeat (first | refine WC.region ?_ | refine WL.move _ rfl (by decide) rfl ?_ | refine WL.nilc _ rfl (by decide) rfl ?_ | refine WL.cv53_29 rfl (by decide) rfl ?_)
    refine WL.st29 3 (cs := cs) (v := .int .u32 (IntKind.u32.wrap (beU (tkR l wk er W)))) rfl rfl rfl rfl rfl rfl rfl (Nat.ble_eq_true_of_le hj1) (putc_set cs j _ hj1) ?_
    repeat (refine WL.nil ?_)
    exact QE.end0 _ rfl (.refl _) ⟨rfl, .r rg A c l (wkR l.length wk er W) (erR l.length wk er W) bad, _, ⟨rfl, rfl⟩, rfl⟩
  · rcases hW with rfl | rfl | rfl | rfl
    · repeat (first | refine WC.seq ?_ | refine WC.region ?_ | refine WC.block ?_ | refine WL.nil ?_ | with_reducible refine QE.then_n ?_ | refine WC.cond_t rfl ?_ | refine WL.move _ rfl (by decide) rfl ?_ | refine WL.assign _ rfl (by decide) rfl ?_ | refine WL.bin _ _ _ rfl (by decide) rfl rfl (fun _ => rfl) ?_ | refine WL.nilc _ rfl (by decide) rfl ?_ | refine WL.fd96_0 rfl (by decide) rfl ?_ | refine WL.ld68 0 rfl (by decide) rfl rfl rfl ?_)
      refine WL.call [] [] [pt rg] _ _ [.blk cg [pt rg, .slice none 0 0, .bool bad] 96, .blk g cs tb] (get1_con rg c wk A l er hwk hln) rfl (by decide) rfl Try.func42 rfl rfl rfl rfl (List.perm_middle (l₁ := [_, _])) (fun _ _ => trivial) ?_
      rintro r H1 ⟨rfl, rfl⟩
      unfold rd
      refine WL.perm _ (List.perm_middle (l₁ := [_, _])).symm ?_
      repeat (first | refine WL.nil ?_ | with_reducible refine QE.blk_n ?_ | refine WL.assign _ rfl (by decide) rfl ?_ | refine WL.cv5_53 rfl (by decide) rfl ?_)
      exact QE.cut () trivial (.cons rfl (.eq rfl (congrArg _ (x1 l wk er hby)) .nil)) (.refl _)
    · repeat (first | refine WC.seq ?_ | refine WC.region ?_ | refine WC.block ?_ | refine WL.nil ?_ | with_reducible refine QE.then_n ?_ | refine WC.cond_t rfl ?_ | refine WC.cond_f rfl ?_ | refine WL.move _ rfl (by decide) rfl ?_ | refine WL.assign _ rfl (by decide) rfl ?_ | refine WL.bin _ _ _ rfl (by decide) rfl rfl (fun _ => rfl) ?_ | refine WL.nilc _ rfl (by decide) rfl ?_ | refine WL.fd96_0 rfl (by decide) rfl ?_ | refine WL.ld68 0 rfl (by decide) rfl rfl rfl ?_)
      refine WL.call [] [] [pt rg] _ _ [.blk cg [pt rg, .slice none 0 0, .bool bad] 96, .blk g cs tb] (get2_con rg c wk A l er hwk hln) rfl (by decide) rfl Try.func44 rfl rfl rfl rfl (List.perm_middle (l₁ := [_, _])) (fun _ _ => trivial) ?_
      rintro r H1 ⟨rfl, rfl⟩
      unfold rd
      refine WL.perm _ (List.perm_middle (l₁ := [_, _])).symm ?_
      repeat (first | refine WL.nil ?_ | with_reducible refine QE.blk_n ?_ | refine WL.assign _ rfl (by decide) rfl ?_ | refine WL.cv55_53 rfl (by decide) rfl ?_)
      exact QE.cut () trivial (.cons rfl (.eq rfl (congrArg _ (x2 l wk er hby)) .nil)) (.refl _)
    · repeat (first | refine WC.seq ?_ | refine WC.region ?_ | refine WC.block ?_ | refine WL.nil ?_ | with_reducible refine QE.then_n ?_ | refine WC.cond_t rfl ?_ | refine WC.cond_f rfl ?_ | refine WL.move _ rfl (by decide) rfl ?_ | refine WL.assign _ rfl (by decide) rfl ?_ | refine WL.bin _ _ _ rfl (by decide) rfl rfl (fun _ => rfl) ?_ | refine WL.nilc _ rfl (by decide) rfl ?_ | refine WL.fd96_0 rfl (by decide) rfl ?_ | refine WL.ld68 0 rfl (by decide) rfl rfl rfl ?_)
      refine WL.call [] [] [pt rg] _ _ [.blk cg [pt rg, .slice none 0 0, .bool bad] 96, .blk g cs tb] (get4_con rg c wk A l er hwk hln) rfl (by decide) rfl Try.func45 rfl rfl rfl rfl (List.perm_middle (l₁ := [_, _])) (fun _ _ => trivial) ?_
      rintro r H1 ⟨rfl, rfl⟩
      unfold rd
      refine WL.perm _ (List.perm_middle (l₁ := [_, _])).symm ?_
      repeat (first | refine WL.nil ?_ | with_reducible refine QE.blk_n ?_ | refine WL.assign _ rfl (by decide) rfl ?_ | refine WL.cv28_53 rfl (by decide) rfl ?_)
      exact QE.cut () trivial (.cons rfl (.eq rfl (congrArg _ (x4 l wk er hby)) .nil)) (.refl _)
    · repeat (first | refine WC.seq ?_ | refine WC.region ?_ | refine WC.block ?_ | refine WL.nil ?_ | with_reducible refine QE.then_n ?_ | refine WC.cond_f rfl ?_ | refine WL.move _ rfl (by decide) rfl ?_ | refine WL.assign _ rfl (by decide) rfl ?_ | refine WL.bin _ _ _ rfl (by decide) rfl rfl (fun _ => rfl) ?_ | refine WL.nilc _ rfl (by decide) rfl ?_ | refine WL.fd96_0 rfl (by decide) rfl ?_ | refine WL.ld68 0 rfl (by decide) rfl rfl rfl ?_)
      refine WL.call [] [] [pt rg] _ _ [.blk cg [pt rg, .slice none 0 0, .bool bad] 96, .blk g cs tb] (get8_con rg c wk A l er hwk hln) rfl (by decide) rfl Try.func46 rfl rfl rfl rfl (List.perm_middle (l₁ := [_, _])) (fun _ _ => trivial) ?_
      rintro r H1 ⟨rfl, rfl⟩
      unfold rd
      refine WL.perm _ (List.perm_middle (l₁ := [_, _])).symm ?_
      repeat (first | refine WL.nil ?_ | with_reducible refine QE.blk_n ?_ | refine WL.assign _ rfl (by decide) rfl ?_)
      exact QE.cut () trivial (.cons rfl (.eq rfl (congrArg _ (x8 l wk er hby)) .nil)) (.refl _)
end Go.Proofs.Ytalafklnnohlgaa.Cod
