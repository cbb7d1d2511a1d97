/- The law CodeBytes. Conditions: the argument's rows stand as they are told. -/
import Derived.Test.YtalafklnnohlgaaCod26
import Derived.Test.YtalafklnnohlgaaCod27
import Derived.Test.YtalafklnnohlgaaX18
namespace Go.Proofs.Ytalafklnnohlgaa.Cod
open Go.RowKit X Go.Proofs.YtalafklnnohlgaaW.PrintLast
open Oct hiding agg39 size39
set_option linter.unusedVariables false
set_option linter.unusedSimpArgs false

/-- A row of bytes in memory: with where it stands. -/
structure Bm where
  l : List Int
  A : Option Addr
  c : Nat
def Bm.v (m : Bm) : Value := .slice m.A m.l.length m.c
def bmC (ms : List Bm) : List Value := ms.map Bm.v
def bmOk (m : Bm) : Prop := m.l.length ≤ m.c ∧ m.c ≤ maxLen ∧ Byt m.l
def bmRd (w : World) (A : Option Addr) (ms : List Bm) : Prop := Rds w A ms.length 1 (bmC ms) ∧ ∀ m ∈ ms, Rds w m.A m.l.length 1 (b8 m.l)
section
variable {T : Type} {enc : TypeId × Value → T} {W : World}
theorem flat_bm : ∀ ms : List Bm, ms.flatMap (fun p : Bm => [p.v]) = bmC ms
  | [] => rfl
  | x :: ms => by rw [List.flatMap_cons, flat_bm ms]; rfl
theorem rows_open {cs : List Value} (h : Opn enc Try.prog W 23 cs) : ∃ A, ∃ ms : List Bm, ∃ c, cs = [.slice A ms.length c] ∧ (ms.length ≤ c ∧ c ≤ maxLen) ∧ bmRd W A ms ∧ ∀ m ∈ ms, bmOk m := by
  rcases h.sl (s := 1) Try.underlying23 (by kernel_rfl) with rfl | ⟨a, len, cap, rfl, hl, hm, hi⟩
  · exact ⟨none, [], 0, rfl, ⟨Nat.le_refl _, Nat.zero_le _⟩, ⟨⟨rfl, (fun _ => rfl), (fun _ h => by cases h)⟩, fun _ h => by cases h⟩, fun _ h => by cases h⟩
  · obtain ⟨ms, rfl, hq⟩ := pick_list (fun i (m : Bm) => (∀ j, j < 1 → W.cell? (a.add (i * 1 + j)) = [m.v][j]?) ∧ (bmOk m ∧ Rds W m.A m.l.length 1 (b8 m.l))) len (fun i hil => by
      obtain ⟨cs', hl', hc', ho⟩ := hi i hil
      obtain ⟨A, L, c, e0, k0, r0, b0⟩ := bytes_open ho
      exact ⟨⟨L, A, c⟩, (by rw [e0] at hc'; exact hc'), ⟨k0.1, k0.2, b0⟩, r0⟩)
    have hr := rds_flat (w := W) (a := a) (s := 1) (f := fun p : Bm => [p.v]) (fun _ => rfl) (by decide) ms (fun i p hp => (hq i p hp).1)
    rw [flat_bm ms] at hr
    refine ⟨some a, ms, cap, rfl, ⟨hl, hm⟩, ⟨hr, fun m hm => ?_⟩, fun m hm => ?_⟩
    · obtain ⟨i, hi'⟩ := List.getElem?_of_mem hm
      exact (hq i m hi').2.2
    · obtain ⟨i, hi'⟩ := List.getElem?_of_mem hm
      exact (hq i m hi').2.1
end
theorem bmC_at {ms : List Bm} {i : Nat} {m : Bm} (h : ms[i]? = some m) : (bmC ms)[i]? = some (.slice m.A m.l.length m.c) := by simp [bmC, h, Bm.v]
theorem perm7 (g8 s6 s27 g6 r6 r27 r1 : Ck) : [r1, g6, g8, r6, r27, s6, s27].Perm [g8, s6, s27, g6, r6, r27, r1] := by
  have h1 : ([r1, g6, g8, r6, r27, s6, s27] : List Ck).Perm [s6, s27, r1, g6, g8, r6, r27] := List.perm_append_comm (l₁ := [r1, g6, g8, r6, r27]) (l₂ := [s6, s27])
  have h2 : ([s6, s27, r1, g6, g8, r6, r27] : List Ck).Perm [g8, r6, r27, s6, s27, r1, g6] := List.perm_append_comm (l₁ := [s6, s27, r1, g6]) (l₂ := [g8, r6, r27])
  have h3 : ([g8, r6, r27, s6, s27, r1, g6] : List Ck).Perm [g8, s6, s27, r1, g6, r6, r27] := .cons _ (List.perm_append_comm (l₁ := [r6, r27]) (l₂ := [s6, s27, r1, g6]))
  have h4 : ([g8, s6, s27, r1, g6, r6, r27] : List Ck).Perm [g8, s6, s27, g6, r6, r27, r1] := .cons _ (.cons _ (.cons _ (List.perm_append_comm (l₁ := [r1]) (l₂ := [g6, r6, r27]))))
  exact h1.trans (h2.trans (h3.trans h4))
theorem dec_g26 {b : List Int} (hb : Byt b) : g26 (decP b).2 := by
  have hw : wfE (decP b).2 := by
    rcases decP_err b with h | ⟨_, h⟩ | ⟨_, h⟩
    · have : decP b = (0, (decP b).2) := by rw [← h]
      exact rdE_wf hb (decP_0 this)
    · rw [h]; exact wf_zero
    · rw [h]; exact wf_zero
  exact hw.2.1 26 (by decide)
set_option maxHeartbeats 8000000 in
set_option maxRecDepth 100000 in
theorem bytes_con (A : Option Addr) (c : Nat) (ms : List Bm) (hn : ms.length ≤ c ∧ c ≤ maxLen) (hms : ∀ m ∈ ms, bmOk m) :
    Con Try.prog 11 #[.slice A ms.length c] [] (fun w => bmRd w A ms) (same (.bool true) []) := by
  simp only [maxLen] at hn
  refine Con.intro Try.func11 rfl Try.ntmps11 rfl (fun w hR => ?_)
  repeat (first | refine WC.seq ?_ | refine WC.region ?_ | refine WL.assign _ rfl (by decide) rfl ?_)
  refine WL.call [] [] [] _ [] _ wakes_con rfl (by decide) rfl Try.func15 rfl rfl rfl rfl (.refl _) (fun _ _ => trivial) ?_
  rintro v H1 ⟨rfl, rfl⟩
  rw [List.nil_append]
  repeat (first | refine WC.seq ?_ | refine WC.region ?_ | refine WC.block ?_ | refine WC.skip ?_ | refine WL.nil ?_ | with_reducible refine QE.then_n ?_ | refine WC.cond_f rfl ?_ | refine WL.move _ rfl (by decide) rfl ?_ | refine WL.un _ _ rfl (by decide) rfl (fun _ => rfl) ?_ | refine WL.ln23 rfl (by decide) rfl ?_)
  refine WC.loop (σ := Nat) (fun i => [(15, .int .i64 i), (14, .int .i64 ms.length), (13, .slice A ms.length c)]) (fun _ => []) (fun i => i ≤ ms.length) (fun i => ms.length - i) 0 (Nat.zero_le _) (.cons rfl (.cons rfl (.cons rfl .nil))) (.refl _) ?_
  intro i hi
  repeat (first | refine WC.seq ?_ | refine WC.region ?_ | refine WL.bin _ _ _ rfl (by decide) rfl rfl (fun _ => rfl) ?_)
  refine WC.cond _ rfl (fun hlt => ?_) (fun hlt => ?_)
  rotate_left
  · repeat (first | refine WC.seq ?_ | refine WC.region ?_ | refine WC.exit ?_ | refine WC.ret ?_ | refine WL.assign _ rfl (by decide) rfl ?_)
    exact QE.ret1 _ _ rfl rfl (.refl _) ⟨rfl, rfl⟩
  have hlt : (i : Int) < ms.length := of_decide_eq_true hlt
  obtain ⟨m, hmi⟩ : ∃ m, ms[i]? = some m := ⟨_, List.getElem?_eq_getElem (by omega)⟩
  have hmm := List.mem_of_getElem? hmi
  obtain ⟨hm1, hm2, hm3⟩ := hms m hmm
  simp only [maxLen] at hm2
  repeat (first | refine WC.seq ?_ | refine WC.region ?_ | refine WC.block ?_ | refine WC.skip ?_ | refine WL.move _ rfl (by decide) rfl ?_)
  refine WL.idx 39 1 ms.length c .i64 A (i : Int) rfl (by decide) rfl rfl Try.underlying23 size39 (by omega) hlt (fun w hI => hR.1.nil) (fun ad had => ?_)
  refine WL.load1 (ad.add ((i : Int).toNat * 1)) (.slice m.A m.l.length m.c) rfl (by decide) rfl agg39 (fun w hI => (Oct.kept0 hR.1 hI.kp rfl).cell had (bmC_at hmi)) ?_
  repeat (first | refine WC.seq ?_ | refine WC.region ?_ | refine WL.nil ?_ | with_reducible refine QE.then_n ?_ | refine WL.move _ rfl (by decide) rfl ?_ | refine WL.assign _ rfl (by decide) rfl ?_ | refine WL.bin _ _ _ rfl (by decide) rfl rfl (fun _ => rfl) ?_)
  refine WC.cond _ rfl (fun h16 => ?_) (fun h16 => ?_)
  · repeat (first | refine WC.seq ?_ | refine WC.region ?_ | refine WC.exit ?_ | refine WC.ret ?_ | refine WL.assign _ rfl (by decide) rfl ?_)
    exact QE.ret1 _ _ rfl rfl (.refl _) ⟨rfl, rfl⟩
  repeat (first | refine WC.seq ?_ | refine WC.region ?_ | refine WC.skip ?_)
  obtain ⟨b, hb⟩ : ∃ b, b = m.l.take 300 := ⟨_, rfl⟩
  have hbl : b.length = min m.l.length 300 := by rw [hb, take_len]
  have hbb : Byt b := by rw [hb]; exact byt_take hm3 _
  refine WL.buildS 0 5 1 [] [] rfl (by decide) rfl rfl rfl (fun w => by kernel_rfl) (fun gb => ?_)
  repeat (first | refine WL.move _ rfl (by decide) rfl ?_ | refine WL.ln39 rfl (by decide) rfl ?_)
  refine WL.mn (m.l.length : Int) 300 (b.length : Int) rfl (by decide) rfl rfl (by rw [hbl, ← mn_nat]; rfl) ?_
  refine WL.cuth m.A m.l.length m.c b.length .i64 Try.underlying39 size5 (by omega) rfl (by decide) rfl rfl ?_
  refine WL.append 0 5 1 1 0 b.length m.c (.int .u8 0) _ m.A [] (b8 b) rfl (by decide) rfl rfl Try.underlying39 info5 rfl (by decide) rfl (fun w hI => ⟨by omega, ?_⟩) (b8_one b) (by omega) (by omega) (fun A1 c1 => ?_)
  · have := rds_take (Oct.kept0 (hR.2 m hmm) hI.kp rfl) hm1 b.length (by omega)
    rwa [b8_take, hbl, take_min, ← hb, ← hbl] at this
  rw [Nat.zero_add, List.nil_append]
  repeat (first | refine WC.seq ?_ | refine WC.region ?_ | refine WL.move _ rfl (by decide) rfl ?_ | refine WL.assign _ rfl (by decide) rfl ?_)
  refine WL.fact (b.length ≤ c1) (fun w hI => (row_reads hI (i := 0) rfl).1) (fun hc1 => ?_)
  refine WL.call [] [] [.slice A1 b.length c1] _ [] _ (decode_con A1 c1 b hc1 (by omega) hbb) rfl (by decide) rfl Try.func48 rfl rfl rfl rfl (.refl _) (fun w hI => (row_reads hI (i := 0) rfl).2) ?_
  rintro v H1 ⟨ev, rfl, hx6, hx27, B6, k6, B27, k27, rfl, rfl⟩
  have hg := dec_g26 hbb
  have hcopy : decP b = decP b := rfl
  obtain ⟨q, hq⟩ : ∃ q, decP b = q := ⟨_, rfl⟩
  rw [hq] at hx6 hx27 hg ⊢
  obtain ⟨er, e⟩ := q
  dsimp only at hx6 hx27 hg ⊢
  simp only [List.cons_append, List.nil_append]
  unfold evV
  repeat (first | refine WL.move _ rfl (by decide) rfl ?_ | refine WL.extract _ _ rfl (by decide) rfl (fun _ => rfl) ?_)
  refine WL.know (.agg (evC e.n (.slice B6 e.nums.length k6) (.slice B27 e.mem.length k27)).toArray) (s := 32) rfl rfl ?_
  refine WL.know (.int .i64 er) (s := 33) rfl rfl ?_
  refine WL.alloc zeroA (evC zeroEv.n (.slice none 0 0) (.slice none 0 0)) rfl (by decide) zero37 rfl (fun g6 => ?_)
  refine WL.st37 0 (cs' := evC e.n (.slice B6 e.nums.length k6) (.slice B27 e.mem.length k27)) rfl rfl rfl rfl rfl rfl rfl rfl rfl ?_
  repeat (first | refine WC.seq ?_ | refine WC.region ?_ | refine WL.assign _ rfl (by decide) rfl ?_)
  refine WL.buildS 0 5 1 [] [] rfl (by decide) rfl rfl rfl (fun w => by kernel_rfl) (fun gb2 => ?_)
  repeat (refine WL.move _ rfl (by decide) rfl ?_)
  refine WL.append 0 5 1 1 0 b.length c1 (.int .u8 0) _ A1 [] (b8 b) rfl (by decide) rfl rfl Try.underlying39 info5 rfl (by decide) rfl (fun w hI => ⟨hc1, (row_reads hI (i := 4) rfl).2⟩) (b8_one b) (by omega) (by omega) (fun A2 c2 => ?_)
  rw [Nat.zero_add, List.nil_append]
  refine WL.fact (b.length ≤ c2) (fun w hI => (row_reads hI (i := 0) rfl).1) (fun hc2 => ?_)
  refine WL.call [] [] [.slice A2 b.length c2] _ [] _ (decodeR_con A2 c2 b hc2 (by omega) hbb) rfl (by decide) rfl Try.func49 rfl rfl rfl rfl (.refl _) (fun w hI => (row_reads hI (i := 0) rfl).2) ?_
  rw [hq]
  rintro v H1 ⟨ev, rfl, _, _, D6, d6, D27, d27, rfl, rfl⟩
  dsimp only
  simp only [List.cons_append, List.nil_append]
  unfold evV
  repeat (first | refine WL.move _ rfl (by decide) rfl ?_ | refine WL.extract _ _ rfl (by decide) rfl (fun _ => rfl) ?_)
  refine WL.know (.agg (evC e.n (.slice D6 e.nums.length d6) (.slice D27 e.mem.length d27)).toArray) (s := 39) rfl rfl ?_
  refine WL.know (.int .i64 er) (s := 40) rfl rfl ?_
  refine WL.alloc zeroA (evC zeroEv.n (.slice none 0 0) (.slice none 0 0)) rfl (by decide) zero37 rfl (fun g8 => ?_)
  refine WL.st37 0 (cs' := evC e.n (.slice D6 e.nums.length d6) (.slice D27 e.mem.length d27)) rfl rfl rfl rfl rfl rfl rfl rfl rfl ?_
  repeat (first | refine WC.seq ?_ | refine WC.region ?_ | refine WL.move _ rfl (by decide) rfl ?_ | refine WL.assign _ rfl (by decide) rfl ?_ | refine WL.bin _ _ _ rfl (by decide) rfl rfl (fun _ => rfl) ?_)
  refine WL.know (.bool false) (s := 44) rfl (congrArg Value.bool (by simp)) ?_
  refine WL.sub _ (.cons_cons _ (.cons_cons _ (.cons_cons _ (.cons _ (.refl _))))) ?_
  refine WL.perm [.row (.slice A1 b.length c1) 5 1 b.length (b8 b), .blk g6 (evC e.n (.slice B6 e.nums.length k6) (.slice B27 e.mem.length k27)) 37, .blk g8 (evC e.n (.slice D6 e.nums.length d6) (.slice D27 e.mem.length d27)) 37, .row (.slice B6 e.nums.length k6) 3 1 e.nums.length (i64s e.nums), .row (.slice B27 e.mem.length k27) 3 1 e.mem.length (i64s e.mem), .row (.slice D6 e.nums.length d6) 3 1 e.nums.length (i64s e.nums), .row (.slice D27 e.mem.length d27) 3 1 e.mem.length (i64s e.mem)] (perm7 _ _ _ _ _ _ _) ?_
  repeat (first | refine WL.ld37 1 rfl (by decide) rfl rfl rfl rfl ?_ | refine WL.ld37 2 rfl (by decide) rfl rfl rfl rfl ?_)
  refine WL.call [] [] [evV e B6 k6 B27 k27, evV e D6 d6 D27 d27] _ [] _ (sameR_con e e B6 B27 D6 D27 k6 k27 d6 d27 ⟨le_max hx6, le_max hx27⟩ ⟨le_max hx6, le_max hx27⟩ hg hg) rfl (by decide) rfl Try.func50 rfl rfl rfl rfl (.refl _) (fun w hI => ⟨⟨(row_reads hI (i := 3) rfl).2, (row_reads hI (i := 4) rfl).2⟩, ⟨(row_reads hI (i := 5) rfl).2, (row_reads hI (i := 6) rfl).2⟩⟩) ?_
  rintro v H1 ⟨rfl, rfl⟩
  rw [List.nil_append, same_refl]
  repeat (first | refine WC.seq ?_ | refine WC.region ?_ | refine WC.block ?_ | refine WC.skip ?_ | refine WL.nil ?_ | with_reducible refine QE.then_n ?_ | refine WC.cond_f rfl ?_ | refine WL.move _ rfl (by decide) rfl ?_ | refine WL.un _ _ rfl (by decide) rfl (fun _ => rfl) ?_ | refine WL.pick _ _ rfl (by decide) rfl rfl ?_ | refine WL.ln39 rfl (by decide) rfl ?_)
  refine WC.fact (A1 = none → b.length = 0) (fun w hI => (row_reads hI (i := 0) rfl).2.nil) (fun hA1 => ?_)
  refine WC.loop (σ := Nat × List Int) (fun x => [(52, .int .i64 x.1), (51, .int .i64 b.length), (50, .slice A1 b.length c1), (5, .slice A1 b.length c1), (6, .pointer (some ⟨g6, 0, none⟩)), (8, .pointer (some ⟨g8, 0, none⟩)), (15, .int .i64 i), (14, .int .i64 ms.length), (13, .slice A ms.length c)]) (fun x => [.row (.slice A1 b.length c1) 5 1 b.length (b8 x.2), .blk g6 (evC e.n (.slice B6 e.nums.length k6) (.slice B27 e.mem.length k27)) 37, .blk g8 (evC e.n (.slice D6 e.nums.length d6) (.slice D27 e.mem.length d27)) 37, .row (.slice B6 e.nums.length k6) 3 1 e.nums.length (i64s e.nums), .row (.slice B27 e.mem.length k27) 3 1 e.mem.length (i64s e.mem), .row (.slice D6 e.nums.length d6) 3 1 e.nums.length (i64s e.nums), .row (.slice D27 e.mem.length d27) 3 1 e.mem.length (i64s e.mem)]) (fun x => x.1 ≤ b.length ∧ x.2.length = b.length) (fun x => b.length - x.1) (0, b) ⟨Nat.zero_le _, rfl⟩ (.cons rfl (.cons rfl (.cons rfl (.cons rfl (.cons rfl (.cons rfl (.cons rfl (.cons rfl (.cons rfl .nil))))))))) (.refl _) ?_
  rintro ⟨j, ys⟩ ⟨h1, h2⟩
  dsimp only at h1 h2 ⊢
  repeat (first | refine WC.seq ?_ | refine WC.region ?_ | refine WL.bin _ _ _ rfl (by decide) rfl rfl (fun _ => rfl) ?_)
  refine WC.cond _ rfl (fun hj => ?_) (fun hj => ?_)
  · have hj : (j : Int) < b.length := of_decide_eq_true hj
    obtain ⟨u, hu⟩ : ∃ u, ys[j]? = some u := ⟨_, List.getElem?_eq_getElem (by omega)⟩
    cases A1 with
    | none => have := hA1 rfl; omega
    | some ad1 =>
    repeat (first | refine WC.seq ?_ | refine WC.region ?_ | refine WC.block ?_ | refine WC.skip ?_ | refine WL.move _ rfl (by decide) rfl ?_ | refine WL.assign _ rfl (by decide) rfl ?_)
    refine WL.idxr 0 5 1 b.length c1 .i64 (some ad1) (j : Int) _ rfl rfl (by decide) rfl rfl Try.underlying39 size5 (by omega) hj (fun ad' had' => ?_)
    cases had'
    refine WL.load1 (ad1.add ((j : Int).toNat * 1)) (.int .u8 u) rfl (by decide) rfl agg5 (fun w hI => row_cell hI (i := 0) rfl rfl (by simp [b8, hu])) ?_
    repeat (refine WL.bin _ _ _ rfl (by decide) rfl rfl (fun _ => rfl) ?_)
    generalize IntKind.u8.wrap _ = z
    refine WL.idxr 0 5 1 b.length c1 .i64 (some ad1) (j : Int) _ rfl rfl (by decide) rfl rfl Try.underlying39 size5 (by omega) hj (fun ad' had' => ?_)
    cases had'
    refine WL.setrow 0 5 b.length c1 (some ad1) ad1 (b8 ys) j (.int .u8 z) rfl rfl rfl rfl rfl (by omega) rfl rfl size5 ?_
    repeat (first | refine WC.region ?_ | refine WL.nil ?_ | refine WL.move _ rfl (by decide) rfl ?_ | refine WL.bin _ _ _ rfl (by decide) rfl rfl (fun _ => rfl) ?_)
    refine QE.round (j + 1, ys.set j z) ⟨by dsimp only; omega, by simp [h2]⟩ (by dsimp only; omega) (.eq rfl (by congr 1; rw [wr_i64 (by omega) (by omega)]; simp) (.cons rfl (.cons rfl (.cons rfl (.cons rfl (.cons rfl (.cons rfl (.cons rfl (.cons rfl .nil))))))))) ?_
    dsimp only
    rw [show b8 (ys.set j z) = (b8 ys).set j (.int .u8 z) by simp [b8, List.map_set]]
    exact .refl _
  · repeat (first | refine WC.seq ?_ | refine WC.region ?_ | refine WC.exit ?_ | refine WL.ld37 1 rfl (by decide) rfl rfl rfl rfl ?_ | refine WL.ld37 2 rfl (by decide) rfl rfl rfl rfl ?_)
    refine WL.call [] [] [evV e B6 k6 B27 k27, evV e D6 d6 D27 d27] _ [] _ (sameR_con e e B6 B27 D6 D27 k6 k27 d6 d27 ⟨le_max hx6, le_max hx27⟩ ⟨le_max hx6, le_max hx27⟩ hg hg) rfl (by decide) rfl Try.func50 rfl rfl rfl rfl (.refl _) (fun w hI => ⟨⟨(row_reads hI (i := 3) rfl).2, (row_reads hI (i := 4) rfl).2⟩, ⟨(row_reads hI (i := 5) rfl).2, (row_reads hI (i := 6) rfl).2⟩⟩) ?_
    rintro v H1 ⟨rfl, rfl⟩
    rw [List.nil_append, same_refl]
    repeat (first | refine WC.region ?_ | refine WC.skip ?_ | refine WL.nil ?_ | with_reducible refine QE.then_n ?_ | refine WC.cond_f rfl ?_ | refine WL.move _ rfl (by decide) rfl ?_ | refine WL.bin _ _ _ rfl (by decide) rfl rfl (fun _ => rfl) ?_ | refine WL.un _ _ rfl (by decide) rfl (fun _ => rfl) ?_)
    exact QE.round (i + 1) (by omega) (by omega) (.eq rfl (by congr 1; rw [wr_i64 (by omega) (by omega)]; simp) (.cons rfl (.cons rfl .nil))) (List.nil_sublist _)
end Go.Proofs.Ytalafklnnohlgaa.Cod
