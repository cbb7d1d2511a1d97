/- The law CodeRows. Conditions: the arguments' lists stand as they are told. -/
import Derived.Test.YtalafklnnohlgaaCod32
namespace Go.Proofs.Ytalafklnnohlgaa.Cod
open Go.RowKit X Go.Proofs.YtalafklnnohlgaaW.PrintLast
open Oct hiding agg39 size39
set_option linter.unusedVariables false
set_option linter.unusedSimpArgs false

/-- A row of bytes in memory: with where it stands. -/
structure Bm where
  l : List Int
  A : Option Addr
  c : Nat
def Bm.v (m : Bm) : Value := .slice m.A m.l.length m.c
def bmC (ms : List Bm) : List Value := ms.map Bm.v
def bmOk (m : Bm) : Prop := m.l.length ≤ m.c ∧ m.c ≤ maxLen ∧ Byt m.l
def bmRd (w : World) (A : Option Addr) (ms : List Bm) : Prop := Rds w A ms.length 1 (bmC ms) ∧ ∀ m ∈ ms, Rds w m.A m.l.length 1 (b8 m.l)
section
variable {T : Type} {enc : TypeId × Value → T} {W : World}
theorem flat_bm : ∀ ms : List Bm, ms.flatMap (fun p : Bm => [p.v]) = bmC ms
  | [] => rfl
  | x :: ms => by rw [List.flatMap_cons, flat_bm ms]; rfl
theorem rows_open {cs : List Value} (h : Opn enc Try.prog W 23 cs) : ∃ A, ∃ ms : List Bm, ∃ c, cs = [.slice A ms.length c] ∧ (ms.length ≤ c ∧ c ≤ maxLen) ∧ bmRd W A ms ∧ ∀ m ∈ ms, bmOk m := by
  rcases h.sl (s := 1) Try.underlying23 (by kernel_rfl) with rfl | ⟨a, len, cap, rfl, hl, hm, hi⟩
  · exact ⟨none, [], 0, rfl, ⟨Nat.le_refl _, Nat.zero_le _⟩, ⟨⟨rfl, (fun _ => rfl), (fun _ h => by cases h)⟩, fun _ h => by cases h⟩, fun _ h => by cases h⟩
  · obtain ⟨ms, rfl, hq⟩ := pick_list (fun i (m : Bm) => (∀ j, j < 1 → W.cell? (a.add (i * 1 + j)) = [m.v][j]?) ∧ (bmOk m ∧ Rds W m.A m.l.length 1 (b8 m.l))) len (fun i hil => by
      obtain ⟨cs', hl', hc', ho⟩ := hi i hil
      obtain ⟨A, L, c, e0, k0, r0, b0⟩ := bytes_open ho
      exact ⟨⟨L, A, c⟩, (by rw [e0] at hc'; exact hc'), ⟨k0.1, k0.2, b0⟩, r0⟩)
    have hr := rds_flat (w := W) (a := a) (s := 1) (f := fun p : Bm => [p.v]) (fun _ => rfl) (by decide) ms (fun i p hp => (hq i p hp).1)
    rw [flat_bm ms] at hr
    refine ⟨some a, ms, cap, rfl, ⟨hl, hm⟩, ⟨hr, fun m hm => ?_⟩, fun m hm => ?_⟩
    · obtain ⟨i, hi'⟩ := List.getElem?_of_mem hm
      exact (hq i m hi').2.2
    · obtain ⟨i, hi'⟩ := List.getElem?_of_mem hm
      exact (hq i m hi').2.1
end
theorem bmC_at {ms : List Bm} {i : Nat} {m : Bm} (h : ms[i]? = some m) : (bmC ms)[i]? = some (.slice m.A m.l.length m.c) := by simp [bmC, h, Bm.v]
theorem emS_max {m : Em} (h : emS m) : emMax m := ⟨le_max h.1, le_max h.2⟩
theorem few_wf {a : Ev} (h : wfE a) : wfE (fewE a) := ⟨h.1, h.2.1, h.2.2.1, fun x hx => h.2.2.2.1 x (List.mem_of_mem_take hx), fun x hx => h.2.2.2.2 x (List.mem_of_mem_take hx)⟩
theorem ems_own {E : Env} {H : List Ck} {w : World} {A : Option Addr} {c : Nat} {ms : List Em} (k : Nat) (hk : H[k]? = some (.row (.slice A ms.length c) 37 29 ms.length (emsC ms))) (hs : ∀ m ∈ ms, ∀ q ∈ emR m, q ∈ H) (hI : I E H w) : EmsOk w A ms :=
  ⟨(row_reads hI hk).2, fun m hm => ok_mem (hs m hm) hI⟩
theorem in_emsR {m : Em} {ms : List Em} (hm : m ∈ ms) : ∀ q ∈ emR m, q ∈ emsR ms := fun q hq => List.mem_flatMap.2 ⟨m, hm, hq⟩
theorem cap_le {more : Int} (h : R64 more) : IntKind.i64.wrap (IntKind.i64.wrap (2000 + (IntKind.i64.wrap (more.tmod 3 + 3)).tmod 3) - 1) ≤ 2001 := by
  have h1 := Int.tmod_lt_of_pos more (show (0 : Int) < 3 by decide)
  have h2 := Int.lt_tmod_of_pos more (show (0 : Int) < 3 by decide)
  generalize more.tmod 3 = t at h1 h2
  rw [wr_i64 (x := t + 3) (by omega) (by omega)]
  have h3 := Int.tmod_lt_of_pos (t + 3) (show (0 : Int) < 3 by decide)
  have h4 := Int.lt_tmod_of_pos (t + 3) (show (0 : Int) < 3 by decide)
  generalize (t + 3).tmod 3 = u at h3 h4
  rw [wr_i64 (x := 2000 + u) (by omega) (by omega), wr_i64 (by omega) (by omega)]
  omega
theorem evGo_wf : ∀ (n : Nat) (r : List Int), Byt r → ∀ e ∈ (evGo n r).1, wfE e
  | 0, r, _, e, h => by cases h
  | n + 1, r, hb, e, h => by
    unfold evGo at h
    cases hr : rdE r with
    | good r' e' =>
      rw [hr] at h
      rcases List.mem_cons.1 h with rfl | h
      · exact rdE_wf hb hr
      · exact evGo_wf n r' (fun u hu => hb u (by rw [(rdE_own hb hr).1]; exact List.mem_append_right _ hu)) e h
    | short => rw [hr] at h; cases h
    | code => rw [hr] at h; cases h
theorem evs_wf {b : List Int} (hb : Byt b) : ∀ e ∈ (evsP b).1, wfE e := by
  intro e he
  unfold evsP at he
  split at he
  · cases he
  · dsimp only at he
    split at he
    · unfold evG at he
      split at he
      · cases he
      · exact evGo_wf _ _ (byt_drop hb 2) e he
    · cases he
theorem permU (r1 r2 r : Ck) (X : List Ck) : (r :: (X ++ [r1, r2])).Perm (r1 :: r2 :: r :: X) := List.perm_append_comm (l₁ := r :: X) (l₂ := [r1, r2])
set_option maxHeartbeats 16000000 in
set_option maxRecDepth 100000 in
theorem rows_con (A B : Option Addr) (c k : Nat) (ms : List Em) (bs : List Bm) (more : Int) (hn : ms.length ≤ c ∧ c ≤ maxLen) (hms : ∀ m ∈ ms, cellsOk m.e m.c6 m.c27 ∧ wfE m.e) (hk : bs.length ≤ k ∧ k ≤ maxLen) (hbs : ∀ m ∈ bs, bmOk m) (hmr : R64 more) :
    Con Try.prog 3 #[.slice A ms.length c, .slice B bs.length k, .int .i64 more] [] (fun w => (Rds w A ms.length 29 (emsC ms) ∧ ∀ m ∈ ms, EvRd w m.e m.A6 m.A27) ∧ bmRd w B bs) (same (.bool true) []) := by
  simp only [maxLen] at hk hn
  refine Con.intro Try.func3 rfl Try.ntmps3 rfl (fun w hR => ?_)
  repeat (first | refine WC.seq ?_ | refine WC.region ?_ | refine WL.assign _ rfl (by decide) rfl ?_)
  refine WL.call [] [] [] _ [] _ wakes_con rfl (by decide) rfl Try.func15 rfl rfl rfl rfl (.refl _) (fun _ _ => trivial) ?_
  rintro v H1 ⟨rfl, rfl⟩
  rw [List.nil_append]
  repeat (first | refine WC.skip ?_ | refine WL.nil ?_ | with_reducible refine QE.then_n ?_ | refine WC.cond_f rfl ?_ | refine WL.un _ _ rfl (by decide) rfl (fun _ => rfl) ?_)
  refine WC.seq ?_
  repeat (first | refine WC.region ?_ | refine WL.nil ?_ | with_reducible refine QE.then_n ?_ | refine WL.assign _ rfl (by decide) rfl ?_)
  refine WC.nilrow 37 29 ?_
  refine WC.cut (σ := List Em × Option Addr × Nat) (fun x => [(7, .slice x.2.1 x.1.length x.2.2), (1, .slice B bs.length k), (2, .int .i64 more)]) (fun x => .row (.slice x.2.1 x.1.length x.2.2) 37 29 x.1.length (emsC x.1) :: emsR x.1) (fun x => x.1.length ≤ 20 ∧ ∀ m ∈ x.1, emS m ∧ wfE m.e) ?_ ?_
  rotate_left
  · repeat (first | refine WC.seq ?_ | refine WC.region ?_ | refine WC.block ?_ | refine WL.move _ rfl (by decide) rfl ?_ | refine WL.ln22 rfl (by decide) rfl ?_)
    refine WC.loop (σ := Nat × List Em × Option Addr × Nat) (fun x => [(29, .int .i64 x.1), (28, .int .i64 ms.length), (27, .slice A ms.length c), (7, .slice x.2.2.1 x.2.1.length x.2.2.2), (1, .slice B bs.length k), (2, .int .i64 more)]) (fun x => .row (.slice x.2.2.1 x.2.1.length x.2.2.2) 37 29 x.2.1.length (emsC x.2.1) :: emsR x.2.1)
      (fun x => x.1 ≤ ms.length ∧ x.2.1.length ≤ x.1 ∧ x.2.1.length ≤ 20 ∧ ∀ m ∈ x.2.1, emS m ∧ wfE m.e) (fun x => ms.length - x.1) (0, [], none, 0) ⟨Nat.zero_le _, Nat.zero_le _, Nat.zero_le _, fun _ h => by cases h⟩ (.cons rfl (.cons rfl (.cons rfl (.cons rfl (.cons rfl (.cons rfl .nil)))))) (.refl _) ?_
    rintro ⟨i, l, A5, c5⟩ ⟨g1, g2, g3, g4⟩
    dsimp only at g1 g2 g3 g4 ⊢
    repeat (first | refine WC.seq ?_ | refine WC.region ?_ | refine WL.bin _ _ _ rfl (by decide) rfl rfl (fun _ => rfl) ?_)
    refine WC.cond _ rfl (fun hlt => ?_) (fun hlt => ?_)
    rotate_left
    · repeat (first | refine WC.exit ?_ | with_reducible refine QE.then_e ?_ | with_reducible refine QE.blk_hit ?_)
      exact QE.cut (l, A5, c5) ⟨g3, g4⟩ (.cons rfl (.cons rfl (.cons rfl .nil))) (.refl _)
    have hlt : (i : Int) < ms.length := of_decide_eq_true hlt
    obtain ⟨m, hmi⟩ : ∃ m, ms[i]? = some m := ⟨_, List.getElem?_eq_getElem (by omega)⟩
    have hmm := List.mem_of_getElem? hmi
    obtain ⟨hmc, hmw⟩ := hms m hmm
    repeat (first | refine WC.seq ?_ | refine WC.region ?_ | refine WC.block ?_ | refine WC.skip ?_ | refine WL.move _ rfl (by decide) rfl ?_)
    refine WL.idx 37 29 ms.length c .i64 A (i : Int) rfl (by decide) rfl rfl Try.underlying22 size37 (by omega) hlt (fun w hI => hR.1.1.nil) (fun ad had => ?_)
    refine WL.loadN (ad.add ((i : Int).toNat * 29)) 29 (emC m) rfl (by decide) rfl agg37 size37 rfl (fun w hI q u hq => by rw [add_add']; exact (Oct.kept0 hR.1.1 hI.kp rfl).at_ ad had _ _ (ems_at ms i m hmi q u hq)) ?_
    refine WL.alloc zeroA (evC zeroEv.n (.slice none 0 0) (.slice none 0 0)) rfl (by decide) zero37 rfl (fun g9 => ?_)
    repeat (first | refine WC.seq ?_ | refine WC.region ?_ | refine WL.nil ?_ | with_reducible refine QE.then_n ?_ | refine WL.move _ rfl (by decide) rfl ?_ | refine WL.assign _ rfl (by decide) rfl ?_ | refine WL.bin _ _ _ rfl (by decide) rfl rfl (fun _ => rfl) ?_ | refine WL.st37 0 rfl rfl rfl rfl rfl rfl rfl rfl rfl ?_)
    refine WC.cond _ rfl (fun h20 => ?_) (fun h20 => ?_)
    rotate_left
    · repeat (first | refine WC.region ?_ | refine WC.skip ?_ | refine WL.nil ?_ | refine WL.move _ rfl (by decide) rfl ?_ | refine WL.bin _ _ _ rfl (by decide) rfl rfl (fun _ => rfl) ?_)
      exact QE.round (i + 1, l, A5, c5) ⟨by dsimp only; omega, by dsimp only; omega, g3, g4⟩ (by dsimp only; omega) (.eq rfl (by congr 1; rw [wr_i64 (by omega) (by omega)]; simp) (.cons rfl (.cons rfl (.cons rfl (.cons rfl (.cons rfl .nil)))))) (.cons _ (.refl _))
    have h20 : (i : Int) < 20 := of_decide_eq_true h20
    repeat (first | refine WC.region ?_ | refine WL.move _ rfl (by decide) rfl ?_ | refine WL.ld37 0 rfl (by decide) rfl rfl rfl rfl ?_)
    refine WL.call [] [] [evV m.e m.A6 m.c6 m.A27 m.c27] _ [] _ (few_con m.e m.A6 m.A27 m.c6 m.c27 hmc.1 hmc.2) rfl (by decide) rfl Try.func16 rfl rfl rfl rfl (.refl _) (fun w hI => (hR.1.2 m hmm).kept hI.kp rfl) ?_
    rintro v H1 ⟨A1, c1, A2, c2, rfl, rfl⟩
    have hfl := few_le m.e
    obtain ⟨m', hm'⟩ : ∃ m' : Em, m' = ⟨fewE m.e, A1, c1, A2, c2⟩ := ⟨_, rfl⟩
    have hev : evV (fewE m.e) A1 c1 A2 c2 = .agg (emC m').toArray := by subst hm'; rfl
    have hrw : ([.row (.slice A1 (fewE m.e).nums.length c1) 3 1 (fewE m.e).nums.length (i64s (fewE m.e).nums), .row (.slice A2 (fewE m.e).mem.length c2) 3 1 (fewE m.e).mem.length (i64s (fewE m.e).mem)] : List Ck) = emR m' := by subst hm'; rfl
    have hsm : emS m' ∧ wfE m'.e := by subst hm'; exact ⟨⟨by dsimp only; omega, by dsimp only; omega⟩, few_wf hmw⟩
    rw [hev, hrw]
    unfold emR
    simp only [List.cons_append, List.nil_append]
    skip
    refine WL.buildS 1 37 29 [(0, .agg (emC m').toArray)] (emC m') rfl (by decide) rfl rfl rfl (fun w => by kernel_rfl) (fun gb => ?_)
    refine WL.append 4 37 29 248 l.length 1 1 zeroA _ _ (emsC l) (emC m') rfl (by decide) rfl rfl Try.underlying22 info37 rfl (by decide) rfl (fun w hI => row_reads hI (i := 0) rfl) (emC_one m') (by omega) (by omega) (fun A3 c3 => ?_)
    repeat (first | refine WC.region ?_ | refine WL.nil ?_ | refine WL.move _ rfl (by decide) rfl ?_ | refine WL.assign _ rfl (by decide) rfl ?_ | refine WL.bin _ _ _ rfl (by decide) rfl rfl (fun _ => rfl) ?_)
    refine QE.sub _ (.cons _ (.cons_cons _ (.cons_cons _ (.cons _ (.refl _))))) ?_
    refine QE.perm _ (permU _ _ _ _) ?_
    refine QE.round (i + 1, l ++ [m'], A3, c3) ⟨by dsimp only; omega, by dsimp only; simp; omega, by dsimp only; simp; omega, fun q hq => ?_⟩ (by dsimp only; omega) (.eq rfl (by congr 1; rw [wr_i64 (by omega) (by omega)]; simp) (.cons rfl (.cons rfl (.eq rfl (by simp) (.cons rfl (.cons rfl .nil)))))) ?_
    · rcases List.mem_append.1 hq with hq | hq
      · exact g4 q hq
      · simp at hq; subst hq; exact hsm
    · dsimp only
      rw [List.length_append, show emsC (l ++ [m']) = emsC l ++ emC m' by simp [emsC], show emsR (l ++ [m']) = emsR l ++ emR m' by simp [emsR]]
      exact .refl _
  rintro ⟨l, A5, c5⟩ ⟨hl20, hl⟩
  dsimp only at hl20 hl ⊢
  have hlm : ∀ m ∈ l, emMax m ∧ wfE m.e := fun m hm => ⟨emS_max (hl m hm).1, (hl m hm).2⟩
  repeat (first | refine WC.seq ?_ | refine WC.region ?_ | refine WL.move _ rfl (by decide) rfl ?_)
  refine WL.call [] [] [.slice A5 l.length c5] _ [] _ (row_con A5 c5 l (Nat.le_trans hl20 (by decide)) (fun m hm => (hlm m hm).1)) rfl (by decide) rfl Try.func17 rfl rfl rfl rfl (.refl _) (fun w hI => ems_own 0 rfl (fun m hm q hq => .tail _ (in_emsR hm q hq)) hI) ?_
  obtain ⟨rp, hrp⟩ : ∃ r, rowP (es l) = r := ⟨_, rfl⟩
  rw [hrp]
  rintro v H1 ⟨P, p, rfl, rfl, _, hby⟩
  simp only [List.cons_append, List.nil_append]
  repeat (first | refine WC.seq ?_ | refine WC.region ?_ | refine WL.move _ rfl (by decide) rfl ?_ | refine WL.assign _ rfl (by decide) rfl ?_ | refine WL.extract _ _ rfl (by decide) rfl (fun _ => rfl) ?_)
  refine WL.call [] [] [.slice A5 l.length c5] _ [] _ (rowR_con A5 c5 l (Nat.le_trans hl20 (by decide)) hlm) rfl (by decide) rfl Try.func18 rfl rfl rfl rfl (.refl _) (fun w hI => ems_own 1 rfl (fun m hm q hq => .tail _ (.tail _ (in_emsR hm q hq))) hI) ?_
  rw [hrp]
  rintro v H1 ⟨P2, p2, rfl, rfl⟩
  simp only [List.cons_append, List.nil_append]
  repeat (first | refine WC.seq ?_ | refine WC.region ?_ | refine WL.move _ rfl (by decide) rfl ?_ | refine WL.assign _ rfl (by decide) rfl ?_ | refine WL.bin _ _ _ rfl (by decide) rfl rfl (fun _ => rfl) ?_ | refine WL.extract _ _ rfl (by decide) rfl (fun _ => rfl) ?_)
  refine WL.know (.bool false) (s := 57) rfl (congrArg Value.bool (by simp)) ?_
  repeat (first | refine WL.move _ rfl (by decide) rfl ?_ | refine WL.bin _ _ _ rfl (by decide) rfl rfl (fun _ => rfl) ?_ | refine WL.pick _ _ rfl (by decide) rfl rfl ?_)
  refine WL.know (.bool false) (s := 62) rfl (congrArg Value.bool (by simp)) ?_
  repeat (refine WL.move _ rfl (by decide) rfl ?_)
  refine WL.call [] [] [.slice P rp.1.length p, .slice P2 rp.1.length p2] _ [] _ (equalB_con P P2 p p2 rp.1 rp.1 hby hby) rfl (by decide) rfl Try.func19 rfl rfl rfl rfl (.refl _) (fun w hI => ⟨(row_reads hI (i := 1) rfl).2, (row_reads hI (i := 0) rfl).2⟩) ?_
  rintro v H1 ⟨rfl, rfl⟩
  rw [List.nil_append, decide_eq_true rfl]
  repeat (first | refine WC.skip ?_ | refine WL.nil ?_ | with_reducible refine QE.then_n ?_ | refine WC.cond_f rfl ?_ | refine WL.un _ _ rfl (by decide) rfl (fun _ => rfl) ?_ | refine WL.pick _ _ rfl (by decide) rfl rfl ?_)
  refine WC.cut (σ := List Em × Option Addr × Nat) (fun x => [(7, .slice x.2.1 x.1.length x.2.2), (1, .slice B bs.length k)]) (fun x => .row (.slice x.2.1 x.1.length x.2.2) 37 29 x.1.length (emsC x.1) :: emsR l) (fun x => x.1.length ≤ 2001 ∧ ∀ m ∈ x.1, m ∈ l) ?_ ?_
  rotate_left
  · repeat (refine WC.block ?_)
    refine WC.loop (σ := List Em × Option Addr × Nat) (fun x => [(7, .slice x.2.1 x.1.length x.2.2), (1, .slice B bs.length k), (2, .int .i64 more)]) (fun x => .row (.slice x.2.1 x.1.length x.2.2) 37 29 x.1.length (emsC x.1) :: emsR l) (fun x => x.1.length ≤ 2001 ∧ ∀ m ∈ x.1, m ∈ l) (fun x => 2001 - x.1.length) (l, A5, c5) ⟨by dsimp only; omega, fun _ h => h⟩ (.cons rfl (.cons rfl (.cons rfl .nil))) (.cons _ (.cons _ (.refl _))) ?_
    rintro ⟨l2, A6, c6⟩ ⟨g1, g2⟩
    dsimp only at g1 g2 ⊢
    repeat (first | refine WC.seq ?_ | refine WC.region ?_ | refine WL.move _ rfl (by decide) rfl ?_ | refine WL.bin _ _ _ rfl (by decide) rfl rfl (fun _ => rfl) ?_ | refine WL.ln22 rfl (by decide) rfl ?_)
    refine WL.split 71 _ rfl (fun h0 => ?_) (fun h0 => ?_)
    rotate_left
    · repeat (first | refine WC.exit ?_ | refine WL.nil ?_ | with_reducible refine QE.then_n ?_ | with_reducible refine QE.then_e ?_ | with_reducible refine QE.blk_hit ?_ | refine WC.cond_f rfl ?_ | refine WL.off rfl (by decide) ?_ | refine WL.pick _ _ rfl (by decide) rfl rfl ?_)
      exact QE.cut (l2, A6, c6) ⟨g1, g2⟩ (.cons rfl (.cons rfl .nil)) (.refl _)
    have h0 : (l2.length : Int) > 0 := of_decide_eq_true h0
    repeat (first | refine WL.nil ?_ | with_reducible refine QE.then_n ?_ | refine WL.move _ rfl (by decide) rfl ?_ | refine WL.bin _ _ _ rfl (by decide) rfl rfl (fun _ => rfl) ?_ | refine WL.pick _ _ rfl (by decide) rfl rfl ?_ | refine WL.ln22 rfl (by decide) rfl ?_)
    refine WC.cond _ rfl (fun h1 => ?_) (fun h1 => ?_)
    rotate_left
    · repeat (first | refine WC.exit ?_ | with_reducible refine QE.then_e ?_ | with_reducible refine QE.blk_hit ?_)
      exact QE.cut (l2, A6, c6) ⟨g1, g2⟩ (.cons rfl (.cons rfl .nil)) (.refl _)
    have h1 := of_decide_eq_true h1
    have hcap := cap_le hmr
    have hlt2 : l2.length < 2001 := by omega
    clear h1 hcap
    obtain ⟨m0, hm0⟩ : ∃ m, l2[0]? = some m := ⟨_, List.getElem?_eq_getElem (by omega)⟩
    have hmm0 := List.mem_of_getElem? hm0
    repeat (first | refine WC.region ?_ | refine WC.block ?_ | refine WC.skip ?_ | refine WL.move _ rfl (by decide) rfl ?_)
    refine WL.idxr 0 37 29 l2.length c6 .i64 A6 (0 : Int) _ rfl rfl (by decide) rfl rfl Try.underlying22 size37 (by decide) (by omega) (fun ad had => ?_)
    refine WL.loadN (ad.add ((0 : Int).toNat * 29)) 29 (emC m0) rfl (by decide) rfl agg37 size37 rfl (fun w hI q u hq => by rw [add_add']; exact (row_reads hI (i := 0) rfl).2.at_ ad had _ _ (ems_at l2 0 m0 hm0 q u hq)) ?_
    refine WL.buildS 1 37 29 [(0, .agg (emC m0).toArray)] (emC m0) rfl (by decide) rfl rfl rfl (fun w => by kernel_rfl) (fun gb => ?_)
    refine WL.append 1 37 29 248 l2.length 1 1 zeroA _ _ (emsC l2) (emC m0) rfl (by decide) rfl rfl Try.underlying22 info37 rfl (by decide) rfl (fun w hI => row_reads hI (i := 0) rfl) (emC_one m0) (by omega) (by omega) (fun A3 c3 => ?_)
    repeat (first | refine WL.nil ?_ | with_reducible refine QE.blk_n ?_ | refine WL.assign _ rfl (by decide) rfl ?_)
    refine QE.round (l2 ++ [m0], A3, c3) ⟨by dsimp only; simp; omega, fun q hq => ?_⟩ (by dsimp only; simp; omega) (.eq rfl (by simp) (.cons rfl (.cons rfl .nil))) ?_
    · rcases List.mem_append.1 hq with hq | hq
      · exact g2 q hq
      · simp at hq; subst hq; exact g2 _ hmm0
    · dsimp only
      rw [List.length_append, show emsC (l2 ++ [m0]) = emsC l2 ++ emC m0 by simp [emsC]]
      exact .cons _ (.refl _)
  rintro ⟨l2, A6, c6⟩ ⟨g1, g2⟩
  dsimp only at g1 g2 ⊢
  have hlm2 : ∀ m ∈ l2, emMax m ∧ wfE m.e := fun m hm => hlm m (g2 m hm)
  have hl2m : l2.length ≤ maxLen := Nat.le_trans g1 (by decide)
  clear hrp hby
  repeat (first | refine WC.seq ?_ | refine WC.region ?_ | refine WL.move _ rfl (by decide) rfl ?_)
  refine WL.call [] [] [.slice A6 l2.length c6] _ [] _ (row_con A6 c6 l2 hl2m (fun m hm => (hlm2 m hm).1)) rfl (by decide) rfl Try.func17 rfl rfl rfl rfl (.refl _) (fun w hI => ems_own 0 rfl (fun m hm q hq => .tail _ (in_emsR (g2 m hm) q hq)) hI) ?_
  obtain ⟨rp, hrp⟩ : ∃ r, rowP (es l2) = r := ⟨_, rfl⟩
  rw [hrp]
  rintro v H1 ⟨P, p, rfl, rfl, _, hby⟩
  simp only [List.cons_append, List.nil_append]
  repeat (first | refine WC.seq ?_ | refine WC.region ?_ | refine WL.move _ rfl (by decide) rfl ?_ | refine WL.assign _ rfl (by decide) rfl ?_ | refine WL.extract _ _ rfl (by decide) rfl (fun _ => rfl) ?_)
  refine WL.call [] [] [.slice A6 l2.length c6] _ [] _ (rowR_con A6 c6 l2 hl2m hlm2) rfl (by decide) rfl Try.func18 rfl rfl rfl rfl (.refl _) (fun w hI => ems_own 1 rfl (fun m hm q hq => .tail _ (.tail _ (in_emsR (g2 m hm) q hq))) hI) ?_
  rw [hrp]
  rintro v H1 ⟨P2, p2, rfl, rfl⟩
  simp only [List.cons_append, List.nil_append]
  repeat (first | refine WC.seq ?_ | refine WC.region ?_ | refine WL.move _ rfl (by decide) rfl ?_ | refine WL.assign _ rfl (by decide) rfl ?_ | refine WL.bin _ _ _ rfl (by decide) rfl rfl (fun _ => rfl) ?_ | refine WL.extract _ _ rfl (by decide) rfl (fun _ => rfl) ?_)
  refine WL.know (.bool false) (s := 103) rfl (congrArg Value.bool (by simp)) ?_
  repeat (first | refine WL.move _ rfl (by decide) rfl ?_ | refine WL.bin _ _ _ rfl (by decide) rfl rfl (fun _ => rfl) ?_ | refine WL.pick _ _ rfl (by decide) rfl rfl ?_)
  refine WL.know (.bool false) (s := 108) rfl (congrArg Value.bool (by simp)) ?_
  repeat (refine WL.move _ rfl (by decide) rfl ?_)
  refine WL.call [] [] [.slice P rp.1.length p, .slice P2 rp.1.length p2] _ [] _ (equalB_con P P2 p p2 rp.1 rp.1 hby hby) rfl (by decide) rfl Try.func19 rfl rfl rfl rfl (.refl _) (fun w hI => ⟨(row_reads hI (i := 1) rfl).2, (row_reads hI (i := 0) rfl).2⟩) ?_
  rintro v H1 ⟨rfl, rfl⟩
  rw [List.nil_append, decide_eq_true rfl]
  repeat (first | refine WC.seq ?_ | refine WC.region ?_ | refine WC.block ?_ | refine WC.skip ?_ | refine WL.nil ?_ | with_reducible refine QE.then_n ?_ | refine WC.cond_f rfl ?_ | refine WL.move _ rfl (by decide) rfl ?_ | refine WL.un _ _ rfl (by decide) rfl (fun _ => rfl) ?_ | refine WL.pick _ _ rfl (by decide) rfl rfl ?_ | refine WL.ln23 rfl (by decide) rfl ?_)
  refine WC.loop (σ := Nat) (fun i => [(116, .int .i64 i), (115, .int .i64 bs.length), (114, .slice B bs.length k)]) (fun _ => []) (fun i => i ≤ bs.length) (fun i => bs.length - i) 0 (Nat.zero_le _) (.cons rfl (.cons rfl (.cons rfl .nil))) (List.nil_sublist _) ?_
  clear hrp hby g1 g2 hlm2 hl2m hl20 hl hlm
  intro i hi
  repeat (first | refine WC.seq ?_ | refine WC.region ?_ | refine WL.bin _ _ _ rfl (by decide) rfl rfl (fun _ => rfl) ?_)
  refine WC.cond _ rfl (fun hlt => ?_) (fun hlt => ?_)
  rotate_left
  · repeat (first | refine WC.seq ?_ | refine WC.region ?_ | refine WC.exit ?_ | refine WC.ret ?_ | refine WL.assign _ rfl (by decide) rfl ?_)
    exact QE.ret1 _ _ rfl rfl (.refl _) ⟨rfl, rfl⟩
  have hlt : (i : Int) < bs.length := of_decide_eq_true hlt
  obtain ⟨m, hmi⟩ : ∃ m, bs[i]? = some m := ⟨_, List.getElem?_eq_getElem (by omega)⟩
  have hmm := List.mem_of_getElem? hmi
  obtain ⟨hm1, hm2, hm3⟩ := hbs m hmm
  simp only [maxLen] at hm2
  repeat (first | refine WC.seq ?_ | refine WC.region ?_ | refine WC.block ?_ | refine WC.skip ?_ | refine WL.move _ rfl (by decide) rfl ?_)
  refine WL.idx 39 1 bs.length k .i64 B (i : Int) rfl (by decide) rfl rfl Try.underlying23 size39 (by omega) hlt (fun w hI => hR.2.1.nil) (fun ad had => ?_)
  refine WL.load1 (ad.add ((i : Int).toNat * 1)) (.slice m.A m.l.length m.c) rfl (by decide) rfl agg39 (fun w hI => (Oct.kept0 hR.2.1 hI.kp rfl).cell had (bmC_at hmi)) ?_
  repeat (first | refine WC.seq ?_ | refine WC.region ?_ | refine WL.nil ?_ | with_reducible refine QE.then_n ?_ | refine WL.move _ rfl (by decide) rfl ?_ | refine WL.assign _ rfl (by decide) rfl ?_ | refine WL.bin _ _ _ rfl (by decide) rfl rfl (fun _ => rfl) ?_)
  refine WC.cond _ rfl (fun h8 => ?_) (fun h8 => ?_)
  · repeat (first | refine WC.seq ?_ | refine WC.region ?_ | refine WC.exit ?_ | refine WC.ret ?_ | refine WL.assign _ rfl (by decide) rfl ?_)
    exact QE.ret1 _ _ rfl rfl (.refl _) ⟨rfl, rfl⟩
  repeat (first | refine WC.seq ?_ | refine WC.region ?_ | refine WC.skip ?_)
  obtain ⟨y, hy⟩ : ∃ y, y = m.l.take 1200 := ⟨_, rfl⟩
  have hyl : y.length = min m.l.length 1200 := by rw [hy, take_len]
  have hyb : Byt y := by rw [hy]; exact byt_take hm3 _
  refine WL.buildS 0 5 1 [] [] rfl (by decide) rfl rfl rfl (fun w => by kernel_rfl) (fun gb => ?_)
  repeat (first | refine WL.move _ rfl (by decide) rfl ?_ | refine WL.ln39 rfl (by decide) rfl ?_)
  refine WL.mn (m.l.length : Int) 1200 (y.length : Int) rfl (by decide) rfl rfl (by rw [hyl, ← mn_nat]; rfl) ?_
  refine WL.cuth m.A m.l.length m.c y.length .i64 Try.underlying39 size5 (by omega) rfl (by decide) rfl rfl ?_
  refine WL.append 0 5 1 1 0 y.length m.c (.int .u8 0) _ m.A [] (b8 y) rfl (by decide) rfl rfl Try.underlying39 info5 rfl (by decide) rfl (fun w hI => ⟨by omega, ?_⟩) (b8_one y) (by omega) (by omega) (fun A1 c1 => ?_)
  · have := rds_take (Oct.kept0 (hR.2.2 m hmm) hI.kp rfl) hm1 y.length (by omega)
    rwa [b8_take, hyl, take_min, ← hy, ← hyl] at this
  rw [Nat.zero_add, List.nil_append]
  repeat (first | refine WC.seq ?_ | refine WC.region ?_ | refine WL.move _ rfl (by decide) rfl ?_ | refine WL.assign _ rfl (by decide) rfl ?_)
  refine WL.fact (y.length ≤ c1) (fun w hI => (row_reads hI (i := 0) rfl).1) (fun hc1 => ?_)
  refine WL.call [] [] [.slice A1 y.length c1] _ [] _ (events_con A1 c1 y hc1 (by omega) hyb) rfl (by decide) rfl Try.func20 rfl rfl rfl rfl (.refl _) (fun w hI => (row_reads hI (i := 0) rfl).2) ?_
  have hwf := evs_wf hyb
  obtain ⟨ep, hep⟩ : ∃ r, evsP y = r := ⟨_, rfl⟩
  rw [hep] at hwf ⊢
  rintro v H1 ⟨A7, c7, e1, rfl, he1, rfl, hs1, hl1⟩
  refine WL.perm _ (List.perm_append_comm (l₁ := [_])) ?_
  unfold emsH
  simp only [List.cons_append, List.nil_append]
  repeat (first | refine WC.seq ?_ | refine WC.region ?_ | refine WL.move _ rfl (by decide) rfl ?_ | refine WL.assign _ rfl (by decide) rfl ?_ | refine WL.extract _ _ rfl (by decide) rfl (fun _ => rfl) ?_)
  refine WL.buildS 0 5 1 [] [] rfl (by decide) rfl rfl rfl (fun w => by kernel_rfl) (fun gb2 => ?_)
  repeat (refine WL.move _ rfl (by decide) rfl ?_)
  refine WL.append 0 5 1 1 0 y.length c1 (.int .u8 0) _ A1 [] (b8 y) rfl (by decide) rfl rfl Try.underlying39 info5 rfl (by decide) rfl (fun w hI => ⟨hc1, (row_reads hI (i := 1) rfl).2⟩) (b8_one y) (by omega) (by omega) (fun A2 c2 => ?_)
  rw [Nat.zero_add, List.nil_append]
  refine WL.fact (y.length ≤ c2) (fun w hI => (row_reads hI (i := 0) rfl).1) (fun hc2 => ?_)
  refine WL.call [] [] [.slice A2 y.length c2] _ [] _ (eventsR_con A2 c2 y hc2 (by omega) hyb) rfl (by decide) rfl Try.func21 rfl rfl rfl rfl (.refl _) (fun w hI => (row_reads hI (i := 0) rfl).2) ?_
  rw [hep]
  rintro v H1 ⟨A8, c8, e2, rfl, he2, rfl, hs2, hl2⟩
  unfold emsH
  refine WL.perm _ List.perm_append_comm ?_
  refine WL.sub _ (.cons _ (.cons _ (.refl _))) ?_
  refine WL.perm (.row (.slice A7 e1.length c7) 37 29 e1.length (emsC e1) :: .row (.slice A8 e2.length c8) 37 29 e2.length (emsC e2) :: (emsR e1 ++ emsR e2)) (.cons _ List.perm_middle.symm) ?_
  repeat (first | refine WC.seq ?_ | refine WC.region ?_ | refine WL.move _ rfl (by decide) rfl ?_ | refine WL.assign _ rfl (by decide) rfl ?_ | refine WL.bin _ _ _ rfl (by decide) rfl rfl (fun _ => rfl) ?_ | refine WL.extract _ _ rfl (by decide) rfl (fun _ => rfl) ?_)
  refine WL.know (.bool false) (s := 147) rfl (congrArg Value.bool (by simp)) ?_
  repeat (first | refine WL.move _ rfl (by decide) rfl ?_ | refine WL.bin _ _ _ rfl (by decide) rfl rfl (fun _ => rfl) ?_ | refine WL.pick _ _ rfl (by decide) rfl rfl ?_)
  refine WL.know (.bool false) (s := 152) rfl (congrArg Value.bool (by simp)) ?_
  repeat (refine WL.move _ rfl (by decide) rfl ?_)
  refine WL.call [] [] [.slice A7 e1.length c7, .slice A8 e2.length c8] _ [] _ (sameAll_con A7 A8 c7 c8 e1 e2 (Nat.le_trans hl1 (by decide)) (he1.trans he2.symm) (fun q hq => ⟨emS_max (hs1 q hq), (hwf q.e (by rw [← he1]; exact List.mem_map_of_mem hq)).2.1 26 (by decide)⟩) (fun q hq => emS_max (hs2 q hq))) rfl (by decide) rfl Try.func22 rfl rfl rfl rfl (.refl _) (fun w hI => ⟨ems_own 0 rfl (fun q hq r hr => .tail _ (.tail _ (List.mem_append_left _ (in_emsR hq r hr)))) hI, ems_own 1 rfl (fun q hq r hr => .tail _ (.tail _ (List.mem_append_right _ (in_emsR hq r hr)))) hI⟩) ?_
  rintro v H1 ⟨rfl, rfl⟩
  rw [List.nil_append]
  repeat (first | refine WC.region ?_ | refine WC.skip ?_ | refine WL.nil ?_ | with_reducible refine QE.then_n ?_ | refine WC.cond_f rfl ?_ | refine WL.move _ rfl (by decide) rfl ?_ | refine WL.bin _ _ _ rfl (by decide) rfl rfl (fun _ => rfl) ?_ | refine WL.un _ _ rfl (by decide) rfl (fun _ => rfl) ?_ | refine WL.pick _ _ rfl (by decide) rfl rfl ?_)
  exact QE.round (i + 1) (by omega) (by omega) (.eq rfl (by congr 1; rw [wr_i64 (by omega) (by omega)]; simp) (.cons rfl (.cons rfl .nil))) (List.nil_sublist _)
end Go.Proofs.Ytalafklnnohlgaa.Cod
namespace Go.Proofs.Ytalafklnnohlgaa
open Go.RowKit X Cod
theorem CodeRows_walk {T : Type} {enc : TypeId × Value → T} (W : World) (a : Option Addr) (len cap : Nat) (b : Option Addr) (len2 cap2 : Nat) (more : Int) (h0 : Opn enc Try.prog W 22 [.slice a len cap]) (h1 : Opn enc Try.prog W 23 [.slice b len2 cap2]) (h2 : (Lit.int .i64 more).wf = true) :
    Calls Try.prog 3 #[.slice a len cap, .slice b len2 cap2, .int .i64 more] W fun e W' => e = .returned (.bool true) ∧ Below W.heap.size W W' := by
  obtain ⟨A, ms, c, e0, k0, r0, q0⟩ := evs_open h0
  obtain ⟨B, bs, k, e1, k1, r1, q1⟩ := rows_open h1
  simp only [List.cons.injEq, Value.slice.injEq, and_true] at e0 e1
  obtain ⟨rfl, rfl, rfl⟩ := e0
  obtain ⟨rfl, rfl, rfl⟩ := e1
  exact below_of (rows_con a b cap cap2 ms bs more k0 (fun m hm => ⟨(q0 m hm).1, (q0 m hm).2.2⟩) k1 q1 (wf_i64 h2)) W ⟨⟨r0, fun m hm => (q0 m hm).2.1⟩, r1⟩
end Go.Proofs.Ytalafklnnohlgaa
