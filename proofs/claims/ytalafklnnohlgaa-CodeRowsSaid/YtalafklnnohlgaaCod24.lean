/- The references' taker: a number, a mask, a list. Conditions: the bytes are such, and lie apart from the taker. -/
import Derived.Test.YtalafklnnohlgaaCod19
namespace Go.Proofs.Ytalafklnnohlgaa.Cod
open Go.RowKit X Go.Proofs.YtalafklnnohlgaaW.PrintLast
open Oct hiding agg39 size39
set_option linter.unusedVariables false
set_option linter.unusedSimpArgs false

/-- Where a slice of the bytes at A stands, wk of n bytes taken. -/
def At (A : Option Addr) (n wk : Nat) (B : Option Addr) : Prop := (wk < n → B = A.map (·.add wk)) ∧ (∀ b, B = some b → ∃ a, A = some a ∧ b.block = a.block)
theorem At.zero (A : Option Addr) (n : Nat) : At A n 0 A := by
  refine ⟨fun _ => ?_, fun b hb => ⟨b, hb, rfl⟩⟩
  cases A with
  | none => rfl
  | some a => simp [Addr.add]
theorem add_block (a : Addr) (j : Nat) : (a.add j).block = a.block := by unfold Addr.add; split <;> rfl
theorem At.cut {A B : Option Addr} {n c wk w : Nat} (h : At A n wk B) (hc : n ≤ c) (hw : wk + w ≤ n) : At A n (wk + w) (cutA B (c - wk) w 1) := by
  refine ⟨fun hlt => ?_, fun b hb => ?_⟩
  · unfold cutA
    rw [if_neg (by omega), h.1 (by omega)]
    cases A with
    | none => rfl
    | some a => simp only [Option.map_some]; rw [add_add', Nat.mul_one]
  · unfold cutA at hb
    split at hb
    · exact h.2 b hb
    · cases B with
      | none => simp at hb
      | some b0 =>
        simp only [Option.map_some, Option.some.injEq] at hb
        obtain ⟨a, ha, hh⟩ := h.2 b0 rfl
        exact ⟨a, ha, by rw [← hb, add_block, hh]⟩
/-- Bytes that are read: they lie apart from the chunks H. -/
def BRd (w : World) (H : List Ck) (A : Option Addr) (l : List Int) : Prop := Rds w A l.length 1 (b8 l) ∧ (l ≠ [] → Off H A)
theorem rds_nil (w : World) (A : Option Addr) (s : Nat) : Rds w A 0 s [] := ⟨by simp, (fun _ => rfl), (fun _ _ j u h => by simp at h)⟩
theorem BRd.now {E : Env} {w : World} {H H1 : List Ck} {A : Option Addr} {l : List Int} (h : BRd E.w0 H1 A l) (hF : E.F = fps H1) (hI : I E H w) : BRd w H A l := by
  by_cases hl : l = []
  · subst hl; exact ⟨rds_nil _ _ _, fun h => absurd rfl h⟩
  refine ⟨off_kept h.1 (h.2 hl) hI.kp hF, fun _ => ?_⟩
  rintro ad had ⟨c, hc, hk⟩
  rcases hI.nw c hc _ hk with h1 | h1
  · rw [hF] at h1; exact h.2 hl ad had h1
  · obtain ⟨x, l', rfl⟩ := List.exists_cons_of_ne_nil hl
    have h0 := h.1.at_ ad had 0 (.int .u8 x) rfl
    have hlt := World.block_lt_of_cell? _ _ h0
    rw [add_block] at hlt; omega
theorem BRd.at {w : World} {H : List Ck} {A B : Option Addr} {l : List Int} {wk : Nat} (h : BRd w H A l) (ha : At A l.length wk B) (hk : wk ≤ l.length) : BRd w H B (l.drop wk) := by
  rcases Nat.lt_or_ge wk l.length with hlt | hge
  · have hB := ha.1 hlt
    have hne : l ≠ [] := fun e => by rw [e] at hlt; simp at hlt
    refine ⟨⟨by simp [b8], fun hn => ?_, fun ad had j u hu => ?_⟩, fun _ => ?_⟩
    · rw [hB] at hn
      cases A with
      | none => have := h.1.nil rfl; omega
      | some a => simp at hn
    · rw [hB] at had
      cases A with
      | none => simp at had
      | some a =>
        simp only [Option.map_some, Option.some.injEq] at had
        subst had
        rw [add_add']
        refine h.1.at_ a rfl _ _ ?_
        simpa [b8] using hu
    · intro ad had
      obtain ⟨a, haa, hb⟩ := ha.2 ad had
      rw [hb]; exact h.2 hne a haa
  · rw [List.drop_eq_nil_of_le hge]
    exact ⟨rds_nil _ _ _, fun h => absurd rfl h⟩
/-- A taker's state. -/
def tkH (tg : Nat) (B : Option Addr) (c n wk : Nat) (er : Int) : List Ck := [.blk tg [.slice B (n - wk) (c - wk), .int .i64 er] 101]
/-- What taking a number of w bytes comes to: the number, how far, the error. -/
def nmP (l : List Int) (wk : Nat) (er : Int) (w : Nat) : Int × Nat × Int := if er = 0 then (if wk + w ≤ l.length then (beU ((l.drop wk).take w), wk + w, 0) else (0, wk, 7)) else (0, wk, er)
set_option maxHeartbeats 4000000 in
set_option maxRecDepth 100000 in
theorem num_con (tg : Nat) (A B : Option Addr) (c : Nat) (l : List Int) (wk : Nat) (er : Int) (w : Nat) (hw : w ≤ 8) (hc : l.length ≤ c) (hl : l.length ≤ 140737488355328) (hk : wk ≤ l.length) (ha : At A l.length wk B) :
    Con Try.prog 61 #[pt tg, .int .i64 w] (tkH tg B c l.length wk er) (fun W => BRd W (tkH tg B c l.length wk er) A l)
      (fun v H' => ∃ B', v = .int .u64 (nmP l wk er w).1 ∧ H' = tkH tg B' c l.length (nmP l wk er w).2.1 (nmP l wk er w).2.2 ∧ At A l.length (nmP l wk er w).2.1 B' ∧ (nmP l wk er w).2.1 ≤ l.length) := by
  refine Con.intro Try.func61 rfl Try.ntmps61 rfl (fun W hR => ?_)
  have hread : ∀ {H : List Ck} {w' : World}, I ⟨W, fps (tkH tg B c l.length wk er)⟩ H w' → Rds w' B (l.drop wk).length 1 (b8 (l.drop wk)) := fun hI => ((hR.now rfl hI).at ha hk).1
  unfold tkH pt at *
  by_cases he : er = 0
  · subst he
    repeat (first | refine WC.seq ?_ | refine WC.region ?_ | refine WL.nil ?_ | with_reducible refine QE.then_n ?_ | refine WL.move _ rfl (by decide) rfl ?_ | refine WL.assign _ rfl (by decide) rfl ?_ | refine WL.bin _ _ _ rfl (by decide) rfl rfl (fun _ => rfl) ?_ | refine WL.nilc _ rfl (by decide) rfl ?_ | refine WL.pick _ _ rfl (by decide) rfl rfl ?_ | refine WL.fd101_0 rfl (by decide) rfl ?_ | refine WL.fd101_1 rfl (by decide) rfl ?_ | refine WL.ln39 rfl (by decide) rfl ?_ | refine WL.ld39 0 rfl (by decide) rfl rfl rfl ?_ | refine WL.ld40 0 rfl (by decide) rfl rfl rfl ?_)
    refine WC.cond _ rfl (fun hb => ?_) (fun hb => ?_)
    · have hb : ((l.length - wk : Nat) : Int) < w := of_decide_eq_true hb
      have e : nmP l wk 0 w = (0, wk, 7) := by unfold nmP; rw [if_pos rfl, if_neg (by omega)]
      rw [e]
      repeat (first | refine WC.seq ?_ | refine WC.region ?_ | refine WC.ret ?_ | refine WL.nil ?_ | with_reducible refine QE.then_n ?_ | with_reducible refine QE.then_r ?_ | refine WC.cond_t rfl ?_ | refine WL.move _ rfl (by decide) rfl ?_ | refine WL.assign _ rfl (by decide) rfl ?_ | refine WL.bin _ _ _ rfl (by decide) rfl rfl (fun _ => rfl) ?_ | refine WL.nilc _ rfl (by decide) rfl ?_ | refine WL.fd101_1 rfl (by decide) rfl ?_ | refine WL.ld40 0 rfl (by decide) rfl rfl rfl ?_ | refine WL.st40 0 rfl rfl rfl rfl rfl rfl rfl rfl rfl ?_)
      exact QE.ret1 _ _ rfl rfl (.refl _) ⟨B, rfl, rfl, ha, hk⟩
    have hb : ¬ ((l.length - wk : Nat) : Int) < w := of_decide_eq_false hb
    have e : nmP l wk 0 w = (beU ((l.drop wk).take w), wk + w, 0) := by unfold nmP; rw [if_pos rfl, if_pos (by omega)]
    rw [e]
    obtain ⟨d, hd⟩ : ∃ d, d = (l.drop wk).take w := ⟨_, rfl⟩
    have hdl : d.length = w := by rw [hd]; simp; omega
    rw [← hd]
    repeat (first | refine WC.seq ?_ | refine WC.region ?_ | refine WC.skip ?_ | refine WL.nil ?_ | with_reducible refine QE.then_n ?_ | refine WC.cond_f rfl ?_ | refine WL.move _ rfl (by decide) rfl ?_ | refine WL.assign _ rfl (by decide) rfl ?_ | refine WL.bin _ _ _ rfl (by decide) rfl rfl (fun _ => rfl) ?_ | refine WL.nilc _ rfl (by decide) rfl ?_ | refine WL.fd101_0 rfl (by decide) rfl ?_ | refine WL.fd101_1 rfl (by decide) rfl ?_ | refine WL.ld39 0 rfl (by decide) rfl rfl rfl ?_ | refine WL.ld40 0 rfl (by decide) rfl rfl rfl ?_)
    refine WL.cuth B (l.length - wk) (c - wk) w .i64 Try.underlying39 size5 (by omega) rfl (by decide) rfl rfl ?_
    repeat (first | refine WC.block ?_ | refine WL.move _ rfl (by decide) rfl ?_ | refine WL.ln39 rfl (by decide) rfl ?_)
    have hreadd : ∀ {H : List Ck} {w' : World}, I ⟨W, fps [.blk tg [.slice B (l.length - wk) (c - wk), .int .i64 0] 101]⟩ H w' → Rds w' B w 1 (b8 d) := fun hI => by
      have := (hread hI).cut 0 w (Nat.zero_le _) (by simp; omega) (Nat.le_refl _)
      rw [cutA_0] at this
      simpa [b8, hd, List.map_take] using this
    refine WC.loop (σ := Nat) (fun i => [(37, .int .i64 i), (36, .int .i64 w), (35, .slice B w (c - wk)), (5, .int .u64 (beU (d.take i))), (0, .pointer (some ⟨tg, 0, none⟩)), (1, .int .i64 w)]) (fun _ => [.blk tg [.slice B (l.length - wk) (c - wk), .int .i64 0] 101]) (fun i => i ≤ w) (fun i => w - i) 0 (Nat.zero_le _) (.cons rfl (.cons rfl (.cons rfl (.cons rfl (.cons rfl (.cons rfl .nil)))))) (.refl _) ?_
    intro i hi
    repeat (first | refine WC.seq ?_ | refine WC.region ?_ | refine WL.bin _ _ _ rfl (by decide) rfl rfl (fun _ => rfl) ?_)
    refine WC.cond _ rfl (fun hb => ?_) (fun hb => ?_)
    · have hb : (i : Int) < w := of_decide_eq_true hb
      obtain ⟨u, hu⟩ : ∃ u, d[i]? = some u := ⟨_, List.getElem?_eq_getElem (by omega)⟩
      repeat (first | refine WC.seq ?_ | refine WC.region ?_ | refine WC.block ?_ | refine WC.skip ?_)
      refine WL.idx 5 1 w (c - wk) .i64 B (i : Int) rfl (by decide) rfl rfl Try.underlying39 size5 (by omega) hb (fun w hI => (hreadd hI).nil) (fun ad had => ?_)
      refine WL.load1 (ad.add ((i : Int).toNat * 1)) (.int .u8 u) rfl (by decide) rfl agg5 (fun w hI => (hreadd hI).cell had (by simp [b8, hu])) ?_
      repeat (first | refine WC.region ?_ | refine WL.nil ?_ | refine WL.move _ rfl (by decide) rfl ?_ | refine WL.assign _ rfl (by decide) rfl ?_ | refine WL.bin _ _ _ rfl (by decide) rfl rfl (fun _ => rfl) ?_ | refine WL.cv5_53 rfl (by decide) rfl ?_)
      have e256 : (2 : Int) ^ (min (Int.toNat 8) IntKind.u64.bits) = 256 := by decide
      refine QE.round (i + 1) (by omega) (by omega) (.eq rfl (by congr 1; rw [wr_i64 (by omega) (by omega)]; simp) (.cons rfl (.cons rfl (.eq rfl (congrArg _ ?_) (.cons rfl (.cons rfl .nil)))))) (.refl _)
      rw [List.take_add_one, hu, e256]
      show stepU (beU (d.take i)) u = beU (d.take i ++ [u])
      rw [beU_snoc]
    · have hb : ¬ (i : Int) < w := of_decide_eq_false hb
      have hiw : i = w := by omega
      rw [List.take_of_length_le (by omega)]
      repeat (first | refine WC.seq ?_ | refine WC.region ?_ | refine WC.exit ?_ | refine WL.move _ rfl (by decide) rfl ?_ | refine WL.nilc _ rfl (by decide) rfl ?_ | refine WL.fd101_0 rfl (by decide) rfl ?_ | refine WL.ld39 0 rfl (by decide) rfl rfl rfl ?_)
      refine WL.cutl B (l.length - wk) (c - wk) w .i64 Try.underlying39 size5 (by omega) rfl (by decide) rfl rfl ?_
      repeat (first | refine WC.seq ?_ | refine WC.region ?_ | refine WC.ret ?_ | refine WL.move _ rfl (by decide) rfl ?_ | refine WL.assign _ rfl (by decide) rfl ?_ | refine WL.nilc _ rfl (by decide) rfl ?_ | refine WL.fd101_0 rfl (by decide) rfl ?_ | refine WL.st39 0 rfl rfl rfl rfl rfl rfl rfl rfl rfl ?_)
      refine QE.ret1 _ _ rfl rfl (.refl _) ⟨cutA B (c - wk) w 1, rfl, ?_, ha.cut hc (by omega), by dsimp only; omega⟩
      dsimp only
      rw [Nat.sub_sub, Nat.sub_sub]
      rfl
  · have e : nmP l wk er w = (0, wk, er) := by unfold nmP; rw [if_neg he]
    rw [e]
    repeat (first | refine WC.seq ?_ | refine WC.region ?_ | refine WL.move _ rfl (by decide) rfl ?_ | refine WL.assign _ rfl (by decide) rfl ?_ | refine WL.bin _ _ _ rfl (by decide) rfl rfl (fun _ => rfl) ?_ | refine WL.nilc _ rfl (by decide) rfl ?_ | refine WL.fd101_1 rfl (by decide) rfl ?_ | refine WL.ld40 0 rfl (by decide) rfl rfl rfl ?_)
    refine WL.know (.bool false) (s := 13) rfl (congrArg Value.bool (by simp [he])) ?_
    repeat (first | refine WC.seq ?_ | refine WC.region ?_ | refine WC.skip ?_ | refine WL.nil ?_ | with_reducible refine QE.then_n ?_ | refine WC.cond_f rfl ?_ | refine WL.move _ rfl (by decide) rfl ?_ | refine WL.bin _ _ _ rfl (by decide) rfl rfl (fun _ => rfl) ?_ | refine WL.nilc _ rfl (by decide) rfl ?_ | refine WL.off rfl (by decide) ?_ | refine WL.pick _ _ rfl (by decide) rfl rfl ?_ | refine WL.fd101_1 rfl (by decide) rfl ?_ | refine WL.ld40 0 rfl (by decide) rfl rfl rfl ?_)
    refine WC.cond_t (by show some (Value.bool _) = _; simp [he]) ?_
    repeat (first | refine WC.seq ?_ | refine WC.region ?_ | refine WC.ret ?_ | with_reducible refine QE.then_r ?_ | refine WL.assign _ rfl (by decide) rfl ?_)
    exact QE.ret1 _ _ rfl rfl (.refl _) ⟨B, rfl, rfl, ha, hk⟩
theorem BRd.nows {E : Env} {w : World} {H H' H1 : List Ck} {A : Option Addr} {l : List Int} (h : BRd E.w0 H1 A l) (hF : E.F = fps H1) (hI : I E H w) (hs : ∀ c ∈ H', c ∈ H) : BRd w H' A l :=
  ⟨(h.now hF hI).1, fun hl ad had hh => by obtain ⟨c, hc, hk⟩ := hh; exact (h.now hF hI).2 hl ad had ⟨c, hs c hc, hk⟩⟩
theorem nmP_0 {l : List Int} (hb : Byt l) (wk : Nat) (er : Int) (w : Nat) (hw : w ≤ 8) : 0 ≤ (nmP l wk er w).1 ∧ (nmP l wk er w).1 < 256 ^ w := by
  have hp : (0 : Int) < 256 ^ w := Int.pow_pos (by decide)
  unfold nmP
  split
  · split
    · have hl : ((l.drop wk).take w).length = w := by simp; omega
      have := beU_rg w ((l.drop wk).take w) hl hw (byt_take (byt_drop hb _) _)
      exact this
    · exact ⟨Int.le_refl _, hp⟩
  · exact ⟨Int.le_refl _, hp⟩
set_option maxHeartbeats 4000000 in
set_option maxRecDepth 100000 in
theorem maskT_con (tg : Nat) (A B : Option Addr) (c : Nat) (l : List Int) (wk : Nat) (er : Int) (hc : l.length ≤ c) (hl : l.length ≤ 140737488355328) (hk : wk ≤ l.length) (ha : At A l.length wk B) (p1 p2 : Int × Nat × Int) (e1 : nmP l wk er 4 = p1) (e2 : nmP l p1.2.1 p1.2.2 4 = p2) :
    Con Try.prog 84 #[pt tg] (tkH tg B c l.length wk er) (fun W => BRd W (tkH tg B c l.length wk er) A l)
      (fun v H' => ∃ B', v = .agg #[.int .u32 (IntKind.u32.wrap p1.1), .int .u32 (IntKind.u32.wrap p2.1)] ∧ H' = tkH tg B' c l.length p2.2.1 p2.2.2 ∧ At A l.length p2.2.1 B' ∧ p2.2.1 ≤ l.length) := by
  refine Con.intro Try.func84 rfl Try.ntmps84 rfl (fun W hR => ?_)
  unfold pt
  repeat (first | refine WC.seq ?_ | refine WC.region ?_)
  refine WL.alloc (.agg #[.int .u32 0, .int .u32 0]) [.int .u32 0, .int .u32 0] rfl (by decide) (fun w => by kernel_rfl) rfl (fun g2 => ?_)
  repeat (first | refine WC.seq ?_ | refine WC.region ?_ | refine WL.move _ rfl (by decide) rfl ?_)
  refine WL.call [] [] [pt tg, .int .i64 4] _ (tkH tg B c l.length wk er) [.blk g2 [.int .u32 0, .int .u32 0] 31] (num_con tg A B c l wk er 4 (by decide) hc hl hk ha) rfl (by decide) rfl Try.func61 rfl rfl rfl rfl (.swap _ _ _) (fun w hI => hR.nows rfl hI (fun q hq => .tail _ hq)) ?_
  rintro v H1 ⟨B1, rfl, rfl, ha1, hk1⟩
  rw [e1] at ha1 hk1 ⊢
  repeat (first | refine WC.seq ?_ | refine WC.region ?_ | refine WL.move _ rfl (by decide) rfl ?_ | refine WL.assign _ rfl (by decide) rfl ?_ | refine WL.cv53_29 rfl (by decide) rfl ?_)
  refine WL.call [] [] [pt tg, .int .i64 4] _ (tkH tg B1 c l.length p1.2.1 p1.2.2) [.blk g2 [.int .u32 0, .int .u32 0] 31] (num_con tg A B1 c l p1.2.1 p1.2.2 4 (by decide) hc hl hk1 ha1) rfl (by decide) rfl Try.func61 rfl rfl rfl rfl (.refl _) (fun w hI => hR.nows rfl hI (fun q hq => List.mem_append_left _ hq)) ?_
  rintro v H1 ⟨B2, rfl, rfl, ha2, hk2⟩
  rw [e2] at ha2 hk2 ⊢
  unfold tkH
  simp only [List.cons_append, List.nil_append]
  repeat (refine WL.cv53_29 rfl (by decide) rfl ?_)
  refine WL.build [(0, .int .u32 (IntKind.u32.wrap p1.1)), (1, .int .u32 (IntKind.u32.wrap p2.1))] (.agg #[.int .u32 (IntKind.u32.wrap p1.1), .int .u32 (IntKind.u32.wrap p2.1)]) rfl (by decide) rfl (fun w => by kernel_rfl) ?_
  refine WL.st31 1 (cs' := [.int .u32 (IntKind.u32.wrap p1.1), .int .u32 (IntKind.u32.wrap p2.1)]) rfl rfl rfl rfl rfl rfl rfl rfl rfl ?_
  repeat (refine WC.ret ?_)
  exact QE.retc1 1 g2 2 [.int .u32 (IntKind.u32.wrap p1.1), .int .u32 (IntKind.u32.wrap p2.1)] 31 (tkH tg B2 c l.length p2.2.1 p2.2.2) rfl agg31 size31 rfl rfl rfl (.cons_cons _ (List.nil_sublist _)) ⟨B2, rfl, rfl, ha2, hk2⟩
/-- So many numbers of a byte, behind others. -/
def lsGo (l : List Int) : Nat → Nat → Int → List Int → Nat × Int × List Int
  | 0, wk, er, xs => (wk, er, xs)
  | k + 1, wk, er, xs => if er = 0 then lsGo l k (nmP l wk 0 1).2.1 (nmP l wk 0 1).2.2 (xs ++ [(nmP l wk 0 1).1]) else (wk, er, xs)
def lsP (l : List Int) (wk : Nat) (er : Int) : Nat × Int × List Int := lsGo l (nmP l wk er 1).1.toNat (nmP l wk er 1).2.1 (if 32 < (nmP l wk er 1).1 then 361 else (nmP l wk er 1).2.2) []
set_option maxHeartbeats 4000000 in
set_option maxRecDepth 100000 in
theorem listT_con (tg : Nat) (A B : Option Addr) (c : Nat) (l : List Int) (wk : Nat) (er : Int) (hb : Byt l) (hc : l.length ≤ c) (hl : l.length ≤ 140737488355328) (hk : wk ≤ l.length) (ha : At A l.length wk B) :
    Con Try.prog 85 #[pt tg] (tkH tg B c l.length wk er) (fun W => BRd W (tkH tg B c l.length wk er) A l)
      (fun v H' => ∃ B' A' c' wk' er' xs, lsP l wk er = (wk', er', xs) ∧ v = .slice A' (xs : List Int).length c' ∧ H' = tkH tg B' c l.length wk' er' ++ [.row (.slice A' xs.length c') 3 1 xs.length (i64s xs)] ∧ At A l.length wk' B' ∧ wk' ≤ l.length ∧ xs.length ≤ 255) := by
  refine Con.intro Try.func85 rfl Try.ntmps85 rfl (fun W hR => ?_)
  unfold pt
  repeat (first | refine WC.seq ?_ | refine WC.region ?_ | refine WL.move _ rfl (by decide) rfl ?_ | refine WL.assign _ rfl (by decide) rfl ?_)
  refine WL.call [] [] [pt tg, .int .i64 1] _ (tkH tg B c l.length wk er) [] (num_con tg A B c l wk er 1 (by decide) hc hl hk ha) rfl (by decide) rfl Try.func61 rfl rfl rfl rfl (by rw [List.append_nil]) (fun w hI => hR.nows rfl hI (fun q hq => hq)) ?_
  rintro v H1 ⟨B1, rfl, rfl, ha1, hk1⟩
  have hp0 := nmP_0 hb wk er 1 (by decide)
  have hlP : lsP l wk er = lsGo l (nmP l wk er 1).1.toNat (nmP l wk er 1).2.1 (if 32 < (nmP l wk er 1).1 then 361 else (nmP l wk er 1).2.2) [] := rfl
  obtain ⟨p1, e1⟩ : ∃ p, nmP l wk er 1 = p := ⟨_, rfl⟩
  rw [e1] at ha1 hk1 hp0 hlP ⊢
  obtain ⟨x, wk1, er1⟩ := p1
  dsimp only at ha1 hk1 hp0 hlP ⊢
  rw [show (256 : Int) ^ 1 = 256 by decide] at hp0
  rw [List.append_nil]
  obtain ⟨er2, her2⟩ : ∃ e : Int, e = if 32 < x then 361 else er1 := ⟨_, rfl⟩
  rw [← her2] at hlP
  unfold tkH
  repeat (first | refine WL.nil ?_ | with_reducible refine QE.then_n ?_ | refine WL.assign _ rfl (by decide) rfl ?_)
  refine WC.cut (σ := Unit) (fun _ => [(3, .slice none 0 0), (4, .int .u64 x), (0, .pointer (some ⟨tg, 0, none⟩))]) (fun _ => tkH tg B1 c l.length wk1 er2) (fun _ => True) ?_ ?_
  · rintro _ _
    repeat (first | refine WC.seq ?_ | refine WC.region ?_ | refine WC.block ?_ | refine WL.assign _ rfl (by decide) rfl ?_)
    refine WC.nilrow 3 1 ?_
    refine WC.loop (σ := Nat × Option Addr × Nat × Int × List Int × Option Addr × Nat) (fun s => [(5, .int .u64 s.1), (3, .slice s.2.2.2.2.2.1 s.2.2.2.2.1.length s.2.2.2.2.2.2), (4, .int .u64 x), (0, .pointer (some ⟨tg, 0, none⟩))]) (fun s => .row (.slice s.2.2.2.2.2.1 s.2.2.2.2.1.length s.2.2.2.2.2.2) 3 1 s.2.2.2.2.1.length (i64s s.2.2.2.2.1) :: tkH tg s.2.1 c l.length s.2.2.1 s.2.2.2.1)
      (fun s => s.1 ≤ x.toNat ∧ s.2.2.2.2.1.length = s.1 ∧ At A l.length s.2.2.1 s.2.1 ∧ s.2.2.1 ≤ l.length ∧ lsGo l (x.toNat - s.1) s.2.2.1 s.2.2.2.1 s.2.2.2.2.1 = lsP l wk er) (fun s => x.toNat - s.1) (0, B1, wk1, er2, [], none, 0) ⟨Nat.zero_le _, rfl, ha1, hk1, hlP.symm⟩ (.cons rfl (.cons rfl (.cons rfl (.cons rfl .nil)))) (.refl _) ?_
    rintro ⟨i, B2, wk2, er3, xs, A3, c3⟩ ⟨g1, g2, g3, g4, g5⟩
    dsimp only at g1 g2 g3 g4 g5 ⊢
    unfold tkH
    repeat (first | refine WC.seq ?_ | refine WC.region ?_ | refine WL.move _ rfl (by decide) rfl ?_ | refine WL.bin _ _ _ rfl (by decide) rfl rfl (fun _ => rfl) ?_)
    have hout : ∀ (hlast : lsGo l (x.toNat - i) wk2 er3 xs = (wk2, er3, xs)), lsP l wk er = (wk2, er3, xs) := fun h => by rw [← g5, h]
    refine WL.split 16 _ rfl (fun hlt => ?_) (fun hlt => ?_)
    · have hlt : (i : Int) < x := of_decide_eq_true hlt
      obtain ⟨k, hkk⟩ : ∃ k, x.toNat - i = k + 1 := ⟨x.toNat - i - 1, by omega⟩
      repeat (first | refine WL.nil ?_ | with_reducible refine QE.then_n ?_ | refine WL.move _ rfl (by decide) rfl ?_ | refine WL.bin _ _ _ rfl (by decide) rfl rfl (fun _ => rfl) ?_ | refine WL.nilc _ rfl (by decide) rfl ?_ | refine WL.pick _ _ rfl (by decide) rfl rfl ?_ | refine WL.fd101_1 rfl (by decide) rfl ?_ | refine WL.ld40 1 rfl (by decide) rfl rfl rfl ?_)
      refine WC.cond _ rfl (fun he => ?_) (fun he => ?_)
      · have he : er3 = 0 := by simpa using he
        subst he
        repeat (first | refine WC.seq ?_ | refine WC.region ?_ | refine WC.block ?_ | refine WC.skip ?_ | refine WL.move _ rfl (by decide) rfl ?_)
        refine WL.call [] [] [pt tg, .int .i64 1] _ (tkH tg B2 c l.length wk2 0) [.row (.slice A3 xs.length c3) 3 1 xs.length (i64s xs)] (num_con tg A B2 c l wk2 0 1 (by decide) hc hl g4 g3) rfl (by decide) rfl Try.func61 rfl rfl rfl rfl (.swap _ _ _) (fun w hI => hR.nows rfl hI (fun q hq => .tail _ hq)) ?_
        rintro v H1 ⟨B4, rfl, rfl, ha4, hk4⟩
        have hp4 := nmP_0 hb wk2 0 1 (by decide)
        have hg : lsGo l k (nmP l wk2 0 1).2.1 (nmP l wk2 0 1).2.2 (xs ++ [(nmP l wk2 0 1).1]) = lsP l wk er := by rw [← g5, hkk]; rfl
        obtain ⟨p4, e4⟩ : ∃ p, nmP l wk2 0 1 = p := ⟨_, rfl⟩
        rw [e4] at ha4 hk4 hp4 hg ⊢
        obtain ⟨u, wk4, er4⟩ := p4
        dsimp only at ha4 hk4 hp4 hg ⊢
        rw [show (256 : Int) ^ 1 = 256 by decide] at hp4
        unfold tkH
        simp only [List.cons_append, List.nil_append]
        repeat (refine WL.cv53_3 rfl (by decide) rfl ?_)
        refine WL.know (.int .i64 u) (s := 28) rfl (congrArg _ (wr_i64 (by omega) (by omega))) ?_
        refine WL.buildS 1 3 1 [(0, .int .i64 u)] [.int .i64 u] rfl (by decide) rfl rfl rfl (fun w => by kernel_rfl) (fun gb => ?_)
        refine WL.append 2 3 1 8 xs.length 1 1 (.int .i64 0) _ _ (i64s xs) [.int .i64 u] rfl (by decide) rfl rfl Try.underlying25 info3 rfl (by decide) rfl (fun w hI => row_reads hI (i := 0) rfl) (by simp [Value.oneCell']) (by omega) (by omega) (fun A5 c5 => ?_)
        repeat (first | refine WC.region ?_ | refine WL.nil ?_ | refine WL.move _ rfl (by decide) rfl ?_ | refine WL.assign _ rfl (by decide) rfl ?_ | refine WL.bin _ _ _ rfl (by decide) rfl rfl (fun _ => rfl) ?_)
        refine QE.sub _ (.cons _ (.refl _)) ?_
        refine QE.perm _ (.swap _ _ _) ?_
        refine QE.round (i + 1, B4, wk4, er4, xs ++ [u], A5, c5) ⟨by dsimp only; omega, by simp [g2], ha4, hk4, by dsimp only; rw [show x.toNat - (i + 1) = k by omega]; exact hg⟩ (by dsimp only; omega) (.eq rfl (by congr 1; rw [wr_u64 (by omega) (by omega)]; simp) (.eq rfl (by simp) (.cons rfl (.cons rfl .nil)))) ?_
        dsimp only
        rw [List.length_append, show i64s (xs ++ [u]) = i64s xs ++ [.int .i64 u] by simp [i64s]]
        exact .refl _
      · have he : er3 ≠ 0 := by simpa using he
        repeat (first | refine WC.seq ?_ | refine WC.region ?_ | refine WC.exit ?_ | refine WC.ret ?_ | refine WL.move _ rfl (by decide) rfl ?_ | refine WL.assign _ rfl (by decide) rfl ?_)
        refine QE.perm _ (.swap _ _ _) ?_
        exact QE.ret1 _ _ rfl rfl (.refl _) ⟨B2, A3, c3, wk2, er3, xs, hout (by rw [hkk]; simp only [lsGo, if_neg he]), rfl, rfl, g3, g4, by omega⟩
    · have hlt : ¬ (i : Int) < x := of_decide_eq_false hlt
      repeat (first | refine WC.seq ?_ | refine WC.region ?_ | refine WC.exit ?_ | refine WC.ret ?_ | refine WL.nil ?_ | with_reducible refine QE.then_n ?_ | refine WC.cond_f rfl ?_ | refine WL.move _ rfl (by decide) rfl ?_ | refine WL.assign _ rfl (by decide) rfl ?_ | refine WL.off rfl (by decide) ?_ | refine WL.pick _ _ rfl (by decide) rfl rfl ?_)
      refine QE.perm _ (.swap _ _ _) ?_
      exact QE.ret1 _ _ rfl rfl (.refl _) ⟨B2, A3, c3, wk2, er3, xs, hout (by rw [show x.toNat - i = 0 by omega]; rfl), rfl, rfl, g3, g4, by omega⟩
  · repeat (first | refine WC.seq ?_ | refine WC.region ?_ | refine WL.nil ?_ | with_reducible refine QE.then_n ?_ | refine WL.move _ rfl (by decide) rfl ?_ | refine WL.bin _ _ _ rfl (by decide) rfl rfl (fun _ => rfl) ?_)
    refine WC.cond _ rfl (fun h => ?_) (fun h => ?_)
    · have h : x > 32 := of_decide_eq_true h
      repeat (first | refine WC.region ?_ | refine WL.nil ?_ | refine WL.move _ rfl (by decide) rfl ?_ | refine WL.nilc _ rfl (by decide) rfl ?_ | refine WL.fd101_1 rfl (by decide) rfl ?_ | refine WL.st40 0 rfl rfl rfl rfl rfl rfl rfl rfl rfl ?_)
      rw [if_pos (by omega)] at her2
      subst her2
      exact QE.cut () trivial (.cons rfl (.cons rfl (.cons rfl .nil))) (.refl _)
    · have h : ¬ x > 32 := of_decide_eq_false h
      repeat (refine WC.skip ?_)
      rw [if_neg (by omega)] at her2
      subst her2
      exact QE.cut () trivial (.cons rfl (.cons rfl (.cons rfl .nil))) (.refl _)
end Go.Proofs.Ytalafklnnohlgaa.Cod
