/- The law CodeList. Conditions: the arguments' lists stand as they are told. -/
import Derived.Test.YtalafklnnohlgaaPur4
namespace Go.Proofs.Ytalafklnnohlgaa.Cod
open Go.RowKit X Go.Proofs.YtalafklnnohlgaaW.PrintLast
open Oct hiding agg39 size39
set_option linter.unusedVariables false
set_option linter.unusedSimpArgs false

section
variable {P : Program} {E : Env} {N : Nat} {ops : Array Oper} {Q : Exit → Act → World → Prop} {m : List (Nat × Value)} {H : List Ck} {ty : TypeId} {pos : String} {af : Array Edge} {g : Option (Nat × Bool)} {d : Nat}
theorem WA.loadN {HS : List Ck} {ds : List Nat} {fuel : Nat} {ls : Array Bool} {t : TypeId} {x : Operand} (i : Nat) (l' : Array Bool) (ad : Addr) (n : Nat) (vs : List Value) (hi : ops[i]? = some ⟨some d, .load t x, ty, pos, af, g⟩) (hw : Wd ops m g = some true) (hd : d < N) (hs : HS.Sublist H) (hcb : takeB .any ops ds ls l' i = true) (hQ : Qp Q) (hx : ev m x = some (.pointer (some ad)))
    (ha : ∀ w, (isAgg t).run P w = .ok true w) (hz : ∀ w, (sizeOf t).run P w = .ok n w) (hn : vs.length = n) (hl : ∀ w, Oks E HS w → ∀ j u, vs[j]? = some u → w.cell? (ad.add j) = some u) (h : WA P E N ops Q HS ds fuel l' ((d, .agg vs.toArray) :: m) H) : WA P E N ops Q HS ds (fuel + 1) ls m H :=
  WA.held i l' _ hi hw hd hs hcb hQ (fun a w hF hS => by
    have hl := loadCells_list (P := P) (w := w) (ad := ad) vs 0 #[] (fun q u hq => by simpa using hl w hS q u hq)
    rw [hn] at hl
    simp only [execOp, hF.eval hx, Instr.loadAt, Instr.sureAddr, loadVar]
    simp [ha w, hz w, loadCells, hl]) h
end
theorem oks_row {E : Env} {HS : List Ck} {w : World} {k e s n : Nat} {A : Option Addr} {c : Nat} {xs : List Value} (hS : Oks E HS w) (hk : HS[k]? = some (.row (.slice A n c) e s n xs)) : Rds w A n s xs := by
  obtain ⟨A', c', he, h1, h2⟩ := own_form (hS.1 _ (List.mem_of_getElem? hk))
  cases he
  exact h2
theorem ok_mem {E : Env} {H : List Ck} {w : World} {m : Em} (h : ∀ q ∈ emR m, q ∈ H) (hI : I E H w) : EmOk w m := by
  obtain ⟨i, hi⟩ := List.getElem?_of_mem (h (.row m.st 3 1 m.e.nums.length (i64s m.e.nums)) (by simp [emR]))
  obtain ⟨j, hj⟩ := List.getElem?_of_mem (h (.row m.tt 3 1 m.e.mem.length (i64s m.e.mem)) (by simp [emR]))
  exact ok_rows i j hi hj hI
theorem ems_own {E : Env} {H : List Ck} {w : World} {A : Option Addr} {c : Nat} {ms : List Em} (k : Nat) (hk : H[k]? = some (.row (.slice A ms.length c) 37 29 ms.length (emsC ms))) (hs : ∀ q ∈ emsR ms, q ∈ H) (hI : I E H w) : EmsOk w A ms :=
  ⟨(row_reads hI hk).2, fun m hm => ok_mem (fun q hq => hs q (List.mem_flatMap.2 ⟨m, hm, hq⟩)) hI⟩
section
variable {T : Type} {enc : TypeId × Value → T} {W : World}
theorem evs_open {cs : List Value} (h : Opn enc Try.prog W 22 cs) : ∃ A, ∃ ms : List Em, ∃ c, cs = [.slice A ms.length c] ∧ (ms.length ≤ c ∧ c ≤ maxLen) ∧ Rds W A ms.length 29 (emsC ms) ∧ ∀ m ∈ ms, cellsOk m.e m.c6 m.c27 ∧ EvRd W m.e m.A6 m.A27 ∧ wfE m.e := by
  rcases h.sl (s := 29) Try.underlying22 (by kernel_rfl) with rfl | ⟨a, len, cap, rfl, hl, hm, hi⟩
  · exact ⟨none, [], 0, rfl, ⟨Nat.le_refl _, Nat.zero_le _⟩, ⟨rfl, (fun _ => rfl), (fun _ h => by cases h)⟩, fun _ h => by cases h⟩
  · obtain ⟨ms, rfl, hq⟩ := pick_list (fun i (m : Em) => (∀ j, j < 29 → W.cell? (a.add (i * 29 + j)) = (emC m)[j]?) ∧ (cellsOk m.e m.c6 m.c27 ∧ EvRd W m.e m.A6 m.A27 ∧ wfE m.e)) len (fun i hil => by
      obtain ⟨cs', hl', hc', ho⟩ := hi i hil
      obtain ⟨x, A6, c6, A27, c27, e0, k0, r0, w0⟩ := ev_open ho
      exact ⟨⟨x, A6, c6, A27, c27⟩, (by rw [e0] at hc'; exact hc'), k0, r0, w0⟩)
    refine ⟨some a, ms, cap, rfl, ⟨hl, hm⟩, rds_flat (w := W) (a := a) (s := 29) (f := emC) (fun _ => rfl) (by decide) ms (fun i p hp => (hq i p hp).1), fun m hm => ?_⟩
    obtain ⟨i, hi'⟩ := List.getElem?_of_mem hm
    exact (hq i m hi').2
end
theorem permL (X : List Ck) (a r1 r2 p a1 a2 g l o : Ck) : (a :: p :: a1 :: a2 :: g :: l :: o :: (X ++ [r1, r2])).Perm (a :: r1 :: r2 :: p :: a1 :: a2 :: g :: l :: o :: X) := .cons _ (List.perm_append_comm (l₁ := [p, a1, a2, g, l, o] ++ X) (l₂ := [r1, r2]))
theorem permZ (s l r o : Ck) (X Y : List Ck) : (s :: l :: r :: o :: (X ++ Y)).Perm ((s :: X) ++ (r :: l :: o :: Y)) := by
  refine .cons _ ((List.Perm.swap r l _).trans ?_)
  have : ((([r, l, o] : List Ck) ++ X) ++ Y).Perm ((X ++ [r, l, o]) ++ Y) := List.Perm.append_right Y List.perm_append_comm
  rwa [List.append_assoc X] at this
theorem beB_small {n : Nat} (h : n ≤ 30) : beB 2 (n : Int) = [0, (n : Int)] := by
  show [((n : Int) / 256 ^ 1) % 256, ((n : Int) % 256 ^ 1 / 256 ^ 0) % 256] = _
  have h1 : (256 : Int) ^ 1 = 256 := by decide
  have h0 : (256 : Int) ^ 0 = 1 := by decide
  rw [h1, h0]
  congr 1
  · omega
  · congr 1; omega
theorem byt_catB : ∀ l : List Ev, Byt (catB l)
  | [], _, h => by cases h
  | e :: l, u, h => by
    simp only [catB, List.flatMap_cons] at h
    rcases List.mem_append.1 h with h | h
    · exact byt_encB e u h
    · exact byt_catB l u h
/-- What holds of the events taken so far. -/
structure LL (l : List Em) (out : List Int) (i : Nat) : Prop where
  n : l.length ≤ i
  ok : AllOk (es l)
  eq : out = catB (es l)
  len : out.length ≤ 400 * i
  sm : ∀ m ∈ l, emS m
theorem LL.more {l : List Em} {out : List Int} {i : Nat} {m : Em} {y : List Int} (h : LL l out i) (hp : encP m.e = some y) (hy : y.length ≤ 400) (hm : emS m) : LL (l ++ [m]) (out ++ y) (i + 1) := by
  have h1 := h.n
  have h2 := h.len
  refine ⟨by simp; omega, fun e he => ?_, ?_, by simp; omega, fun q hq => ?_⟩
  · simp only [es, List.map_append, List.map_cons, List.map_nil, List.mem_append, List.mem_singleton] at he
    rcases he with he | rfl
    · exact h.ok e he
    · exact ⟨y, hp⟩
  · rw [h.eq]; simp [es, catB, (encB_of hp).1]
  · rcases List.mem_append.1 hq with hq | hq
    · exact h.sm q hq
    · simp at hq; subst hq; exact hm
theorem LL.skip {l : List Em} {out : List Int} {i : Nat} (h : LL l out i) : LL l out (i + 1) := ⟨Nat.le_succ_of_le h.n, h.ok, h.eq, by have := h.len; omega, h.sm⟩
theorem emS_max {m : Em} (h : emS m) : emMax m := ⟨le_max h.1, le_max h.2⟩
set_option maxHeartbeats 8000000 in
set_option maxRecDepth 100000 in
theorem list_con (A B : Option Addr) (c k : Nat) (ms : List Em) (b0 : List Int) (hn : ms.length ≤ c ∧ c ≤ maxLen) (hms : ∀ m ∈ ms, cellsOk m.e m.c6 m.c27) (hk : b0.length ≤ k ∧ k ≤ maxLen) (hb0 : Byt b0) :
    Con Try.prog 4 #[.slice A ms.length c, .slice B b0.length k] [] (fun w => (Rds w A ms.length 29 (emsC ms) ∧ ∀ m ∈ ms, EvRd w m.e m.A6 m.A27) ∧ Rds w B b0.length 1 (b8 b0)) (same (.bool true) []) := by
  simp only [maxLen] at hk hn
  refine Con.intro Try.func4 rfl Try.ntmps4 rfl (fun w hR => ?_)
  repeat (first | refine WC.seq ?_ | refine WC.region ?_ | refine WL.assign _ rfl (by decide) rfl ?_)
  refine WL.call [] [] [] _ [] _ wakes_con rfl (by decide) rfl Try.func15 rfl rfl rfl rfl (.refl _) (fun _ _ => trivial) ?_
  rintro v H1 ⟨rfl, rfl⟩
  rw [List.nil_append]
  repeat (first | refine WC.skip ?_ | refine WL.nil ?_ | with_reducible refine QE.then_n ?_ | refine WC.cond_f rfl ?_ | refine WL.un _ _ rfl (by decide) rfl (fun _ => rfl) ?_)
  refine WC.seq ?_
  repeat (first | refine WC.region ?_ | refine WL.nil ?_ | with_reducible refine QE.then_n ?_ | refine WL.assign _ rfl (by decide) rfl ?_)
  refine WC.seq ?_
  repeat (refine WC.region ?_)
  refine WL.buildS 0 5 1 [] [] rfl (by decide) rfl rfl rfl (fun w => by kernel_rfl) (fun gb => ?_)
  repeat (first | refine WL.nil ?_ | with_reducible refine QE.then_n ?_ | refine WL.assign _ rfl (by decide) rfl ?_)
  refine WC.nilrow 37 29 ?_
  refine WC.cut (σ := List Em × Option Addr × Nat × List Int × Option Addr × Nat) (fun x => [(6, .slice x.2.2.2.2.1 x.2.2.2.1.length x.2.2.2.2.2), (5, .slice x.2.1 x.1.length x.2.2.1), (1, .slice B b0.length k)]) (fun x => .row (.slice x.2.1 x.1.length x.2.2.1) 37 29 x.1.length (emsC x.1) :: .row (.slice x.2.2.2.2.1 x.2.2.2.1.length x.2.2.2.2.2) 5 1 x.2.2.2.1.length (b8 x.2.2.2.1) :: emsR x.1) (fun x => LL x.1 x.2.2.2.1 30) ?_ ?_
  · rintro ⟨l, A5, c5, out, A6, c6⟩ hL
    dsimp only at hL ⊢
    have hlE : (es l).length = l.length := by simp [es]
    have hl30 := hL.n
    have hlo := hL.len
    obtain ⟨l2, hl2, hl2n, hag⟩ := evsP_cat hL.ok (by omega)
    have hrP := rowP_ok hL.ok (by omega)
    rw [hlE, beB_small hl30, ← hL.eq] at hl2 hrP
    rw [hlE] at hl2n
    have hbo : Byt out := by rw [hL.eq]; exact byt_catB _
    repeat (first | refine WC.seq ?_ | refine WC.region ?_ | refine WL.move _ rfl (by decide) rfl ?_)
    refine WL.call [] [] [.slice A5 l.length c5] _ [] _ (row_con A5 c5 l (Nat.le_trans hl30 (by decide)) (fun q hq => emS_max (hL.sm q hq))) rfl (by decide) rfl Try.func17 rfl rfl rfl rfl (.refl _) (fun w hI => ems_own 0 rfl (fun q hq => .tail _ (.tail _ hq)) hI) ?_
    rintro v H1 ⟨A7, c7, rfl, rfl, _, _⟩
    rw [hrP]
    dsimp only
    obtain ⟨r, hr⟩ : ∃ r, r = [0, (l.length : Int)] ++ out := ⟨_, rfl⟩
    rw [← hr] at hl2 ⊢
    have hrl : r.length = out.length + 2 := by rw [hr]; simp
    have hrb : Byt r := fun u hu => by
      rw [hr] at hu
      rcases List.mem_append.1 hu with hu | hu
      · simp at hu; omega
      · exact hbo u hu
    simp only [List.cons_append, List.nil_append]
    repeat (first | refine WC.seq ?_ | refine WL.move _ rfl (by decide) rfl ?_ | refine WL.assign _ rfl (by decide) rfl ?_ | refine WL.extract _ _ rfl (by decide) rfl (fun _ => rfl) ?_)
    refine WC.fact (r.length ≤ c7 ∧ (A7 = none → r.length = 0)) (fun w hI => ⟨(row_reads hI (i := 0) rfl).1, (row_reads hI (i := 0) rfl).2.nil⟩) (fun hrc => ?_)
    obtain ⟨hrc, hrn⟩ := hrc
    cases A7 with
    | none => have := hrn rfl; omega
    | some ad =>
    refine WC.draw 36 #[false, false, false, false, false, false, false, false, false, false, false, false, false, false, false, false, false, false, false, false, false, false, false, false, false, false, false, false, false, false, false, false, false, false, false, false] [.row (.slice (some ad) r.length c7) 5 1 r.length (b8 r)] [] (by kernel_rfl) rfl rfl (by repeat (first | exact List.Sublist.refl _ | exact List.nil_sublist _ | refine List.Sublist.cons_cons _ ?_ | refine List.Sublist.cons _ ?_)) ?_
    refine WA.move 0 #[true, false, false, false, false, false, false, false, false, false, false, false, false, false, false, false, false, false, false, false, false, false, false, false, false, false, false, false, false, false, false, false, false, false, false, false] _ rfl rfl rfl (by decide) (by kernel_rfl) (by repeat (first | with_reducible refine Qp.then ?_ | with_reducible refine Qp.blk ?_ | with_reducible exact Qp.body)) ?_
    refine WA.bin 1 #[true, true, false, false, false, false, false, false, false, false, false, false, false, false, false, false, false, false, false, false, false, false, false, false, false, false, false, false, false, false, false, false, false, false, false, false] _ _ _ rfl rfl (fun _ => rfl) rfl rfl (by decide) (by kernel_rfl) (by repeat (first | with_reducible refine Qp.then ?_ | with_reducible refine Qp.blk ?_ | with_reducible exact Qp.body)) ?_
    refine WA.move 2 #[true, true, true, false, false, false, false, false, false, false, false, false, false, false, false, false, false, false, false, false, false, false, false, false, false, false, false, false, false, false, false, false, false, false, false, false] _ rfl rfl rfl (by decide) (by kernel_rfl) (by repeat (first | with_reducible refine Qp.then ?_ | with_reducible refine Qp.blk ?_ | with_reducible exact Qp.body)) ?_
    refine WA.move 3 #[true, true, true, true, false, false, false, false, false, false, false, false, false, false, false, false, false, false, false, false, false, false, false, false, false, false, false, false, false, false, false, false, false, false, false, false] _ rfl rfl rfl (by decide) (by kernel_rfl) (by repeat (first | with_reducible refine Qp.then ?_ | with_reducible refine Qp.blk ?_ | with_reducible exact Qp.body)) ?_
    refine WA.bin 4 #[true, true, true, true, true, false, false, false, false, false, false, false, false, false, false, false, false, false, false, false, false, false, false, false, false, false, false, false, false, false, false, false, false, false, false, false] _ _ _ rfl rfl (fun _ => rfl) rfl rfl (by decide) (by kernel_rfl) (by repeat (first | with_reducible refine Qp.then ?_ | with_reducible refine Qp.blk ?_ | with_reducible exact Qp.body)) ?_
    refine WA.pick 5 #[true, true, true, true, true, true, false, false, false, false, false, false, false, false, false, false, false, false, false, false, false, false, false, false, false, false, false, false, false, false, false, false, false, false, false, false] _ _ rfl rfl rfl rfl (by decide) (by kernel_rfl) (by repeat (first | with_reducible refine Qp.then ?_ | with_reducible refine Qp.blk ?_ | with_reducible exact Qp.body)) ?_
    refine WA.move 6 #[true, true, true, true, true, true, true, false, false, false, false, false, false, false, false, false, false, false, false, false, false, false, false, false, false, false, false, false, false, false, false, false, false, false, false, false] _ rfl rfl rfl (by decide) (by kernel_rfl) (by repeat (first | with_reducible refine Qp.then ?_ | with_reducible refine Qp.blk ?_ | with_reducible exact Qp.body)) ?_
    refine WA.move 7 #[true, true, true, true, true, true, true, true, false, false, false, false, false, false, false, false, false, false, false, false, false, false, false, false, false, false, false, false, false, false, false, false, false, false, false, false] _ rfl rfl rfl (by decide) (by kernel_rfl) (by repeat (first | with_reducible refine Qp.then ?_ | with_reducible refine Qp.blk ?_ | with_reducible exact Qp.body)) ?_
    refine WA.len 8 #[true, true, true, true, true, true, true, true, true, false, false, false, false, false, false, false, false, false, false, false, false, false, false, false, false, false, false, false, false, false, false, false, false, false, false, false] _ _ _ _ Try.underlying39 rfl rfl rfl (by decide) (by kernel_rfl) (by repeat (first | with_reducible refine Qp.then ?_ | with_reducible refine Qp.blk ?_ | with_reducible exact Qp.body)) ?_
    refine WA.move 9 #[true, true, true, true, true, true, true, true, true, true, false, false, false, false, false, false, false, false, false, false, false, false, false, false, false, false, false, false, false, false, false, false, false, false, false, false] _ rfl rfl rfl (by decide) (by kernel_rfl) (by repeat (first | with_reducible refine Qp.then ?_ | with_reducible refine Qp.blk ?_ | with_reducible exact Qp.body)) ?_
    refine WA.len 10 #[true, true, true, true, true, true, true, true, true, true, true, false, false, false, false, false, false, false, false, false, false, false, false, false, false, false, false, false, false, false, false, false, false, false, false, false] _ _ _ _ Try.underlying39 rfl rfl rfl (by decide) (by kernel_rfl) (by repeat (first | with_reducible refine Qp.then ?_ | with_reducible refine Qp.blk ?_ | with_reducible exact Qp.body)) ?_
    refine WA.bin 11 #[true, true, true, true, true, true, true, true, true, true, true, true, false, false, false, false, false, false, false, false, false, false, false, false, false, false, false, false, false, false, false, false, false, false, false, false] _ _ _ rfl rfl (fun _ => rfl) rfl rfl (by decide) (by kernel_rfl) (by repeat (first | with_reducible refine Qp.then ?_ | with_reducible refine Qp.blk ?_ | with_reducible exact Qp.body)) ?_
    refine WA.bin 12 #[true, true, true, true, true, true, true, true, true, true, true, true, true, false, false, false, false, false, false, false, false, false, false, false, false, false, false, false, false, false, false, false, false, false, false, false] _ _ _ rfl rfl (fun _ => rfl) rfl rfl (by decide) (by kernel_rfl) (by repeat (first | with_reducible refine Qp.then ?_ | with_reducible refine Qp.blk ?_ | with_reducible exact Qp.body)) ?_
    refine WA.know (.bool false) (s := 64) rfl (congrArg Value.bool (by rw [wr_i64 (by omega) (by omega)]; simp; omega)) ?_
    refine WA.pick 13 #[true, true, true, true, true, true, true, true, true, true, true, true, true, true, false, false, false, false, false, false, false, false, false, false, false, false, false, false, false, false, false, false, false, false, false, false] _ _ rfl rfl rfl rfl (by decide) (by kernel_rfl) (by repeat (first | with_reducible refine Qp.then ?_ | with_reducible refine Qp.blk ?_ | with_reducible exact Qp.body)) ?_
    refine WA.move 14 #[true, true, true, true, true, true, true, true, true, true, true, true, true, true, true, false, false, false, false, false, false, false, false, false, false, false, false, false, false, false, false, false, false, false, false, false] _ rfl rfl rfl (by decide) (by kernel_rfl) (by repeat (first | with_reducible refine Qp.then ?_ | with_reducible refine Qp.blk ?_ | with_reducible exact Qp.body)) ?_
    refine WA.move 15 #[true, true, true, true, true, true, true, true, true, true, true, true, true, true, true, true, false, false, false, false, false, false, false, false, false, false, false, false, false, false, false, false, false, false, false, false] _ rfl rfl rfl (by decide) (by kernel_rfl) (by repeat (first | with_reducible refine Qp.then ?_ | with_reducible refine Qp.blk ?_ | with_reducible exact Qp.body)) ?_
    refine WA.cutl 16 #[true, true, true, true, true, true, true, true, true, true, true, true, true, true, true, true, true, false, false, false, false, false, false, false, false, false, false, false, false, false, false, false, false, false, false, false] (some ad) r.length c7 2 .i64 Try.underlying39 size5 (by omega) rfl rfl rfl rfl (by decide) (by kernel_rfl) (by repeat (first | with_reducible refine Qp.then ?_ | with_reducible refine Qp.blk ?_ | with_reducible exact Qp.body)) ?_
    refine WA.know (.slice (cutA (some ad) c7 2 1) out.length (c7 - 2)) (s := 68) rfl (by rw [hrl]; rfl) ?_
    refine WA.move 17 #[true, true, true, true, true, true, true, true, true, true, true, true, true, true, true, true, true, true, false, false, false, false, false, false, false, false, false, false, false, false, false, false, false, false, false, false] _ rfl rfl rfl (by decide) (by kernel_rfl) (by repeat (first | with_reducible refine Qp.then ?_ | with_reducible refine Qp.blk ?_ | with_reducible exact Qp.body)) ?_
    refine WA.call 18 #[true, true, true, true, true, true, true, true, true, true, true, true, true, true, true, true, true, true, true, false, false, false, false, false, false, false, false, false, false, false, false, false, false, false, false, false] [] [] [.slice (cutA (some ad) c7 2 1) out.length (c7 - 2), .slice A6 out.length c6] _ [] _ (equalB_con (cutA (some ad) c7 2 1) A6 (c7 - 2) c6 out out hbo hbo) rfl rfl (by decide) (by kernel_rfl) rfl rfl Try.func19 rfl rfl rfl rfl (.refl _) (fun w hI => ⟨by
      have := (row_reads hI (i := 0) rfl).2.cut 2 r.length (by omega) (Nat.le_refl _) hrc
      have e1 : ((b8 r).drop (2 * 1)).take ((r.length - 2) * 1) = b8 out := by rw [hr]; simp [b8, List.take_of_length_le]
      rw [e1, show r.length - 2 = out.length by omega] at this
      exact this, (row_reads hI (i := 2) rfl).2⟩) ?_
    rintro v H1 ⟨rfl, rfl⟩
    rw [List.nil_append, decide_eq_true rfl]
    refine ⟨(by repeat (first | exact List.Sublist.refl _ | exact List.nil_sublist _ | refine List.Sublist.cons_cons _ ?_ | refine List.Sublist.cons _ ?_)), ?_⟩
    refine WA.un 19 #[true, true, true, true, true, true, true, true, true, true, true, true, true, true, true, true, true, true, true, true, false, false, false, false, false, false, false, false, false, false, false, false, false, false, false, false] _ _ rfl (fun _ => rfl) rfl rfl (by decide) (by kernel_rfl) (by repeat (first | with_reducible refine Qp.then ?_ | with_reducible refine Qp.blk ?_ | with_reducible exact Qp.body)) ?_
    refine WA.pick 20 #[true, true, true, true, true, true, true, true, true, true, true, true, true, true, true, true, true, true, true, true, true, false, false, false, false, false, false, false, false, false, false, false, false, false, false, false] _ _ rfl rfl rfl rfl (by decide) (by kernel_rfl) (by repeat (first | with_reducible refine Qp.then ?_ | with_reducible refine Qp.blk ?_ | with_reducible exact Qp.body)) ?_
    refine WA.move 21 #[true, true, true, true, true, true, true, true, true, true, true, true, true, true, true, true, true, true, true, true, true, true, false, false, false, false, false, false, false, false, false, false, false, false, false, false] _ rfl rfl rfl (by decide) (by kernel_rfl) (by repeat (first | with_reducible refine Qp.then ?_ | with_reducible refine Qp.blk ?_ | with_reducible exact Qp.body)) ?_
    refine WA.move 22 #[true, true, true, true, true, true, true, true, true, true, true, true, true, true, true, true, true, true, true, true, true, true, true, false, false, false, false, false, false, false, false, false, false, false, false, false] _ rfl rfl rfl (by decide) (by kernel_rfl) (by repeat (first | with_reducible refine Qp.then ?_ | with_reducible refine Qp.blk ?_ | with_reducible exact Qp.body)) ?_
    refine WA.idx 23 #[true, true, true, true, true, true, true, true, true, true, true, true, true, true, true, true, true, true, true, true, true, true, true, true, false, false, false, false, false, false, false, false, false, false, false, false] 5 1 r.length c7 .i64 ad (0 : Int) Try.underlying39 size5 (by omega) (by omega) rfl rfl rfl rfl (by decide) (by kernel_rfl) (by repeat (first | with_reducible refine Qp.then ?_ | with_reducible refine Qp.blk ?_ | with_reducible exact Qp.body)) ?_
    refine WA.load1 24 #[true, true, true, true, true, true, true, true, true, true, true, true, true, true, true, true, true, true, true, true, true, true, true, true, true, false, false, false, false, false, false, false, false, false, false, false] (ad.add ((0 : Int).toNat * 1)) (.int .u8 0) rfl rfl (by decide) (by repeat (first | exact List.Sublist.refl _ | exact List.nil_sublist _ | refine List.Sublist.cons_cons _ ?_ | refine List.Sublist.cons _ ?_)) (by kernel_rfl) (by repeat (first | with_reducible refine Qp.then ?_ | with_reducible refine Qp.blk ?_ | with_reducible exact Qp.body)) rfl agg5 (fun w hS => (oks_row hS (k := 0) rfl).cell rfl (by rw [hr]; rfl)) ?_
    refine WA.conv 25 #[true, true, true, true, true, true, true, true, true, true, true, true, true, true, true, true, true, true, true, true, true, true, true, true, true, true, false, false, false, false, false, false, false, false, false, false] _ _ rfl (run_conv _ _ _ Try.underlying5 Try.underlying3) rfl rfl (by decide) (by kernel_rfl) (by repeat (first | with_reducible refine Qp.then ?_ | with_reducible refine Qp.blk ?_ | with_reducible exact Qp.body)) ?_
    refine WA.bin 26 #[true, true, true, true, true, true, true, true, true, true, true, true, true, true, true, true, true, true, true, true, true, true, true, true, true, true, true, false, false, false, false, false, false, false, false, false] _ _ _ rfl rfl (fun w => run_shl _ _ _ _ (by decide) w) rfl rfl (by decide) (by kernel_rfl) (by repeat (first | with_reducible refine Qp.then ?_ | with_reducible refine Qp.blk ?_ | with_reducible exact Qp.body)) ?_
    refine WA.move 27 #[true, true, true, true, true, true, true, true, true, true, true, true, true, true, true, true, true, true, true, true, true, true, true, true, true, true, true, true, false, false, false, false, false, false, false, false] _ rfl rfl rfl (by decide) (by kernel_rfl) (by repeat (first | with_reducible refine Qp.then ?_ | with_reducible refine Qp.blk ?_ | with_reducible exact Qp.body)) ?_
    refine WA.idx 28 #[true, true, true, true, true, true, true, true, true, true, true, true, true, true, true, true, true, true, true, true, true, true, true, true, true, true, true, true, true, false, false, false, false, false, false, false] 5 1 r.length c7 .i64 ad (1 : Int) Try.underlying39 size5 (by omega) (by omega) rfl rfl rfl rfl (by decide) (by kernel_rfl) (by repeat (first | with_reducible refine Qp.then ?_ | with_reducible refine Qp.blk ?_ | with_reducible exact Qp.body)) ?_
    refine WA.load1 29 #[true, true, true, true, true, true, true, true, true, true, true, true, true, true, true, true, true, true, true, true, true, true, true, true, true, true, true, true, true, true, false, false, false, false, false, false] (ad.add ((1 : Int).toNat * 1)) (.int .u8 l.length) rfl rfl (by decide) (by repeat (first | exact List.Sublist.refl _ | exact List.nil_sublist _ | refine List.Sublist.cons_cons _ ?_ | refine List.Sublist.cons _ ?_)) (by kernel_rfl) (by repeat (first | with_reducible refine Qp.then ?_ | with_reducible refine Qp.blk ?_ | with_reducible exact Qp.body)) rfl agg5 (fun w hS => (oks_row hS (k := 0) rfl).cell rfl (by rw [hr]; rfl)) ?_
    refine WA.conv 30 #[true, true, true, true, true, true, true, true, true, true, true, true, true, true, true, true, true, true, true, true, true, true, true, true, true, true, true, true, true, true, true, false, false, false, false, false] _ _ rfl (run_conv _ _ _ Try.underlying5 Try.underlying3) rfl rfl (by decide) (by kernel_rfl) (by repeat (first | with_reducible refine Qp.then ?_ | with_reducible refine Qp.blk ?_ | with_reducible exact Qp.body)) ?_
    refine WA.bin 31 #[true, true, true, true, true, true, true, true, true, true, true, true, true, true, true, true, true, true, true, true, true, true, true, true, true, true, true, true, true, true, true, true, false, false, false, false] _ _ _ rfl rfl (fun _ => rfl) rfl rfl (by decide) (by kernel_rfl) (by repeat (first | with_reducible refine Qp.then ?_ | with_reducible refine Qp.blk ?_ | with_reducible exact Qp.body)) ?_
    refine WA.move 32 #[true, true, true, true, true, true, true, true, true, true, true, true, true, true, true, true, true, true, true, true, true, true, true, true, true, true, true, true, true, true, true, true, true, false, false, false] _ rfl rfl rfl (by decide) (by kernel_rfl) (by repeat (first | with_reducible refine Qp.then ?_ | with_reducible refine Qp.blk ?_ | with_reducible exact Qp.body)) ?_
    refine WA.len 33 #[true, true, true, true, true, true, true, true, true, true, true, true, true, true, true, true, true, true, true, true, true, true, true, true, true, true, true, true, true, true, true, true, true, true, false, false] _ _ _ _ Try.underlying22 rfl rfl rfl (by decide) (by kernel_rfl) (by repeat (first | with_reducible refine Qp.then ?_ | with_reducible refine Qp.blk ?_ | with_reducible exact Qp.body)) ?_
    refine WA.bin 34 #[true, true, true, true, true, true, true, true, true, true, true, true, true, true, true, true, true, true, true, true, true, true, true, true, true, true, true, true, true, true, true, true, true, true, true, false] _ _ _ rfl rfl (fun _ => rfl) rfl rfl (by decide) (by kernel_rfl) (by repeat (first | with_reducible refine Qp.then ?_ | with_reducible refine Qp.blk ?_ | with_reducible exact Qp.body)) ?_
    refine WA.know (.bool false) (s := 86) rfl (congrArg Value.bool (by
      have e1 : IntKind.i64.wrap (IntKind.i64.wrap 0 * 2 ^ min (8 : Int).toNat IntKind.i64.bits) = 0 := by decide
      rw [e1, wr_i64 (x := (l.length : Int)) (by omega) (by omega), wr_i64 (by omega) (by omega)]; simp)) ?_
    refine WA.pick 35 #[true, true, true, true, true, true, true, true, true, true, true, true, true, true, true, true, true, true, true, true, true, true, true, true, true, true, true, true, true, true, true, true, true, true, true, true] _ _ rfl rfl rfl rfl (by decide) (by kernel_rfl) (by repeat (first | with_reducible refine Qp.then ?_ | with_reducible refine Qp.blk ?_ | with_reducible exact Qp.body)) ?_
    refine WA.done (by kernel_rfl) ?_
    repeat (first | refine WC.seq ?_ | refine WC.region ?_ | refine WC.skip ?_ | with_reducible refine QE.then_n ?_ | refine WC.cond_f rfl ?_ | refine WL.move _ rfl (by decide) rfl ?_)
    refine WL.call [] [] [.slice (some ad) r.length c7] _ [] _ (events_con (some ad) c7 r hrc (by omega) hrb) rfl (by decide) rfl Try.func20 rfl rfl rfl rfl (.refl _) (fun w hI => (row_reads hI (i := 0) rfl).2) ?_
    rintro v H1 ⟨A8, c8, l3, rfl, hl3, rfl, hs3, h20⟩
    rw [hl2] at hl3 ⊢
    dsimp only at hl3 ⊢
    have hl3n : l3.length = l.length := by rw [← hl2n, ← hl3]; simp [es]
    refine WL.perm _ (permZ _ _ _ _ _ _) ?_
    repeat (first | refine WC.seq ?_ | refine WC.region ?_ | refine WL.move _ rfl (by decide) rfl ?_ | refine WL.assign _ rfl (by decide) rfl ?_ | refine WL.bin _ _ _ rfl (by decide) rfl rfl (fun _ => rfl) ?_ | refine WL.extract _ _ rfl (by decide) rfl (fun _ => rfl) ?_ | refine WL.pick _ _ rfl (by decide) rfl rfl ?_ | refine WL.ln22 rfl (by decide) rfl ?_)
    refine WL.know (.bool false) (s := 102) rfl (congrArg Value.bool (by simp)) ?_
    repeat (first | refine WL.nil ?_ | with_reducible refine QE.then_n ?_ | refine WL.move _ rfl (by decide) rfl ?_ | refine WL.bin _ _ _ rfl (by decide) rfl rfl (fun _ => rfl) ?_ | refine WL.pick _ _ rfl (by decide) rfl rfl ?_ | refine WL.ln22 rfl (by decide) rfl ?_)
    refine WC.cond_f (by show some (Value.bool _) = _; simp [hl3n]) ?_
    repeat (first | refine WC.seq ?_ | refine WC.region ?_ | refine WC.block ?_ | refine WC.skip ?_ | refine WL.move _ rfl (by decide) rfl ?_ | refine WL.ln22 rfl (by decide) rfl ?_)
    refine WC.loop (σ := Nat) (fun i => [(110, .int .i64 i), (109, .int .i64 l3.length), (14, .slice A8 l3.length c8), (5, .slice A5 l.length c5), (1, .slice B b0.length k)]) (fun _ => .row (.slice A8 l3.length c8) 37 29 l3.length (emsC l3) :: .row (.slice A5 l.length c5) 37 29 l.length (emsC l) :: (emsR l3 ++ emsR l)) (fun i => i ≤ l3.length) (fun i => l3.length - i) 0 (Nat.zero_le _) (.cons rfl (.cons rfl (.cons rfl (.cons rfl (.cons rfl .nil))))) (.cons_cons _ (.cons_cons _ (.cons _ (.cons _ (.refl _))))) ?_
    intro i hi
    repeat (first | refine WC.seq ?_ | refine WC.region ?_ | refine WL.bin _ _ _ rfl (by decide) rfl rfl (fun _ => rfl) ?_)
    refine WC.cond _ rfl (fun hlt => ?_) (fun hlt => ?_)
    · have hlt : (i : Int) < l3.length := of_decide_eq_true hlt
      obtain ⟨m1, hm1⟩ : ∃ m, l3[i]? = some m := ⟨_, List.getElem?_eq_getElem (by omega)⟩
      obtain ⟨m2, hm2⟩ : ∃ m, l[i]? = some m := ⟨_, List.getElem?_eq_getElem (by omega)⟩
      have hmm1 := List.mem_of_getElem? hm1
      have hmm2 := List.mem_of_getElem? hm2
      have hsame : sameE m1.e m2.e = true := (same_iff _ _).2 (hag i _ _ (by rw [← hl3]; simp [es, hm1]) (by simp [es, hm2]))
      repeat (first | refine WC.seq ?_ | refine WC.region ?_ | refine WC.block ?_ | refine WC.skip ?_ | refine WL.move _ rfl (by decide) rfl ?_ | refine WL.assign _ rfl (by decide) rfl ?_)
      refine WC.fact ((A8 = none → l3.length = 0) ∧ (A5 = none → l.length = 0)) (fun w hI => ⟨(row_reads hI (i := 0) rfl).2.nil, (row_reads hI (i := 1) rfl).2.nil⟩) (fun hnn => ?_)
      cases A8 with
      | none => have := hnn.1 rfl; omega
      | some ad8 =>
      cases A5 with
      | none => have := hnn.2 rfl; omega
      | some ad5 =>
      refine WC.draw 10 #[false, false, false, false, false, false, false, false, false, false] [.row (.slice (some ad8) l3.length c8) 37 29 l3.length (emsC l3), .row (.slice (some ad5) l.length c5) 37 29 l.length (emsC l)] [] (by kernel_rfl) rfl rfl (by repeat (first | exact List.Sublist.refl _ | exact List.nil_sublist _ | refine List.Sublist.cons_cons _ ?_ | refine List.Sublist.cons _ ?_)) ?_
      refine WA.move 0 #[true, false, false, false, false, false, false, false, false, false] _ rfl rfl rfl (by decide) (by kernel_rfl) (by repeat (first | with_reducible refine Qp.then ?_ | with_reducible refine Qp.blk ?_ | with_reducible exact Qp.body)) ?_
      refine WA.move 1 #[true, true, false, false, false, false, false, false, false, false] _ rfl rfl rfl (by decide) (by kernel_rfl) (by repeat (first | with_reducible refine Qp.then ?_ | with_reducible refine Qp.blk ?_ | with_reducible exact Qp.body)) ?_
      refine WA.idx 2 #[true, true, true, false, false, false, false, false, false, false] 37 29 l3.length c8 .i64 ad8 (i : Int) Try.underlying22 size37 (by omega) hlt rfl rfl rfl rfl (by decide) (by kernel_rfl) (by repeat (first | with_reducible refine Qp.then ?_ | with_reducible refine Qp.blk ?_ | with_reducible exact Qp.body)) ?_
      refine WA.loadN 3 #[true, true, true, true, false, false, false, false, false, false] (ad8.add ((i : Int).toNat * 29)) 29 (emC m1) rfl rfl (by decide) (by repeat (first | exact List.Sublist.refl _ | exact List.nil_sublist _ | refine List.Sublist.cons_cons _ ?_ | refine List.Sublist.cons _ ?_)) (by kernel_rfl) (by repeat (first | with_reducible refine Qp.then ?_ | with_reducible refine Qp.blk ?_ | with_reducible exact Qp.body)) rfl agg37 size37 rfl (fun w hS q u hq => by rw [add_add']; exact (oks_row hS (k := 0) rfl).at_ ad8 rfl _ _ (ems_at l3 i m1 hm1 q u hq)) ?_
      refine WA.move 4 #[true, true, true, true, true, false, false, false, false, false] _ rfl rfl rfl (by decide) (by kernel_rfl) (by repeat (first | with_reducible refine Qp.then ?_ | with_reducible refine Qp.blk ?_ | with_reducible exact Qp.body)) ?_
      refine WA.move 5 #[true, true, true, true, true, true, false, false, false, false] _ rfl rfl rfl (by decide) (by kernel_rfl) (by repeat (first | with_reducible refine Qp.then ?_ | with_reducible refine Qp.blk ?_ | with_reducible exact Qp.body)) ?_
      refine WA.idx 6 #[true, true, true, true, true, true, true, false, false, false] 37 29 l.length c5 .i64 ad5 (i : Int) Try.underlying22 size37 (by omega) (by omega) rfl rfl rfl rfl (by decide) (by kernel_rfl) (by repeat (first | with_reducible refine Qp.then ?_ | with_reducible refine Qp.blk ?_ | with_reducible exact Qp.body)) ?_
      refine WA.loadN 7 #[true, true, true, true, true, true, true, true, false, false] (ad5.add ((i : Int).toNat * 29)) 29 (emC m2) rfl rfl (by decide) (by repeat (first | exact List.Sublist.refl _ | exact List.nil_sublist _ | refine List.Sublist.cons_cons _ ?_ | refine List.Sublist.cons _ ?_)) (by kernel_rfl) (by repeat (first | with_reducible refine Qp.then ?_ | with_reducible refine Qp.blk ?_ | with_reducible exact Qp.body)) rfl agg37 size37 rfl (fun w hS q u hq => by rw [add_add']; exact (oks_row hS (k := 1) rfl).at_ ad5 rfl _ _ (ems_at l i m2 hm2 q u hq)) ?_
      refine WA.call 8 #[true, true, true, true, true, true, true, true, true, false] [] [] [evV m1.e m1.A6 m1.c6 m1.A27 m1.c27, evV m2.e m2.A6 m2.c6 m2.A27 m2.c27] _ [] _ (sameE_con m1.e m2.e m1.A6 m1.A27 m2.A6 m2.A27 m1.c6 m1.c27 m2.c6 m2.c27 (emS_max (hs3 m1 hmm1)) (emS_max (hL.sm m2 hmm2))) rfl rfl (by decide) (by kernel_rfl) rfl rfl Try.func24 rfl rfl rfl rfl (.refl _) (fun w hI => ⟨(ok_mem (fun q hq => .tail _ (.tail _ (List.mem_append_left _ (List.mem_flatMap.2 ⟨m1, hmm1, hq⟩)))) hI).1, (ok_mem (fun q hq => .tail _ (.tail _ (List.mem_append_right _ (List.mem_flatMap.2 ⟨m2, hmm2, hq⟩)))) hI).1⟩) ?_
      rintro v H1 ⟨rfl, rfl⟩
      rw [List.nil_append, hsame]
      refine ⟨(by repeat (first | exact List.Sublist.refl _ | exact List.nil_sublist _ | refine List.Sublist.cons_cons _ ?_ | refine List.Sublist.cons _ ?_)), ?_⟩
      refine WA.un 9 #[true, true, true, true, true, true, true, true, true, true] _ _ rfl (fun _ => rfl) rfl rfl (by decide) (by kernel_rfl) (by repeat (first | with_reducible refine Qp.then ?_ | with_reducible refine Qp.blk ?_ | with_reducible exact Qp.body)) ?_
      refine WA.done (by kernel_rfl) ?_
      repeat (first | refine WC.region ?_ | refine WC.skip ?_ | refine WL.nil ?_ | with_reducible refine QE.then_n ?_ | refine WC.cond_f rfl ?_ | refine WL.move _ rfl (by decide) rfl ?_ | refine WL.bin _ _ _ rfl (by decide) rfl rfl (fun _ => rfl) ?_)
      exact QE.round (i + 1) (by omega) (by omega) (.eq rfl (by congr 1; rw [wr_i64 (by omega) (by omega)]; simp) (.cons rfl (.cons rfl (.cons rfl (.cons rfl .nil))))) (.refl _)
    obtain ⟨b, hb⟩ : ∃ b, b = b0.take 1200 := ⟨_, rfl⟩
    have hbl : b.length = min b0.length 1200 := by rw [hb, take_len]
    have hbb : Byt b := by rw [hb]; exact byt_take hb0 _
    repeat (first | refine WC.seq ?_ | refine WC.region ?_ | refine WC.exit ?_ | refine WL.move _ rfl (by decide) rfl ?_ | refine WL.ln39 rfl (by decide) rfl ?_)
    refine WL.mn (b0.length : Int) 1200 (b.length : Int) rfl (by decide) rfl rfl (by rw [hbl, ← mn_nat]; rfl) ?_
    refine WL.cuth B b0.length k b.length .i64 Try.underlying39 size5 (by omega) rfl (by decide) rfl rfl ?_
    repeat (first | refine WC.seq ?_ | refine WC.region ?_ | refine WL.move _ rfl (by decide) rfl ?_ | refine WL.assign _ rfl (by decide) rfl ?_)
    have hrb2 : ∀ {H : List Ck} {w' : World}, I ⟨w, fps []⟩ H w' → Rds w' B b.length 1 (b8 b) := fun hI => by
      have := rds_take (Oct.kept0 hR.2 hI.kp rfl) hk.1 b.length (by omega)
      rwa [b8_take, hbl, take_min, ← hb, ← hbl] at this
    refine WL.call [] [] [.slice B b.length k] _ [] _ (events_con B k b (by omega) (by omega) hbb) rfl (by decide) rfl Try.func20 rfl rfl rfl rfl (.refl _) (fun w hI => hrb2 hI) ?_
    rintro v H1 ⟨A9, c9, l4, rfl, hl4, rfl, hs4, h4⟩
    by_cases he : (evsP b).2.2 = 0
    · obtain ⟨q1, q2, q3⟩ := evsP_back hbb he
      rw [← hl4] at q1 q2
      have hl4E : (es l4).length = l4.length := by simp [es]
      rw [he, q2, hl4E]
      unfold emsH
      simp only [List.cons_append]
      repeat (first | refine WC.seq ?_ | refine WC.region ?_ | refine WC.skip ?_ | refine WL.nil ?_ | with_reducible refine QE.then_n ?_ | refine WC.cond_f rfl ?_ | refine WL.move _ rfl (by decide) rfl ?_ | refine WL.assign _ rfl (by decide) rfl ?_ | refine WL.bin _ _ _ rfl (by decide) rfl rfl (fun _ => rfl) ?_ | refine WL.extract _ _ rfl (by decide) rfl (fun _ => rfl) ?_)
      refine WL.call [] [] [.slice A9 l4.length c9] _ [] _ (row_con A9 c9 l4 (Nat.le_trans h4 (by decide)) (fun q hq => emS_max (hs4 q hq))) rfl (by decide) rfl Try.func17 rfl rfl rfl rfl (.refl _) (fun w hI => ems_own 0 rfl (fun q hq => .tail _ (List.mem_append_left _ hq)) hI) ?_
      rintro v H1 ⟨P, p, rfl, rfl, _, _⟩
      rw [q1]
      dsimp only
      simp only [List.cons_append, List.nil_append]
      repeat (first | refine WC.seq ?_ | refine WC.region ?_ | refine WL.move _ rfl (by decide) rfl ?_ | refine WL.assign _ rfl (by decide) rfl ?_ | refine WL.bin _ _ _ rfl (by decide) rfl rfl (fun _ => rfl) ?_ | refine WL.extract _ _ rfl (by decide) rfl (fun _ => rfl) ?_)
      refine WL.call [] [] [.slice P b.length p, .slice B b.length k] _ [] _ (equalB_con P B p k b b hbb hbb) rfl (by decide) rfl Try.func19 rfl rfl rfl rfl (.refl _) (fun w hI => ⟨(row_reads hI (i := 0) rfl).2, hrb2 hI⟩) ?_
      rintro v H1 ⟨rfl, rfl⟩
      rw [List.nil_append, decide_eq_true rfl]
      repeat (first | refine WC.ret ?_ | refine WL.move _ rfl (by decide) rfl ?_ | refine WL.assign _ rfl (by decide) rfl ?_ | refine WL.bin _ _ _ rfl (by decide) rfl rfl (fun _ => rfl) ?_ | refine WL.pick _ _ rfl (by decide) rfl rfl ?_ | refine WL.ln22 rfl (by decide) rfl ?_)
      exact QE.ret1 _ _ rfl rfl (List.nil_sublist _) ⟨congrArg Value.bool (by simp), rfl⟩
    · obtain ⟨q1, q2⟩ := evsP_err he
      rw [q1] at hl4
      have hl4' : l4 = [] := List.map_eq_nil_iff.1 hl4
      subst hl4'
      repeat (first | refine WC.seq ?_ | refine WC.region ?_ | refine WL.nil ?_ | with_reducible refine QE.then_n ?_ | refine WL.move _ rfl (by decide) rfl ?_ | refine WL.assign _ rfl (by decide) rfl ?_ | refine WL.bin _ _ _ rfl (by decide) rfl rfl (fun _ => rfl) ?_ | refine WL.extract _ _ rfl (by decide) rfl (fun _ => rfl) ?_)
      refine WC.cond_t (by show some (Value.bool _) = _; simp [he]) ?_
      repeat (first | refine WC.seq ?_ | refine WC.region ?_ | refine WC.ret ?_ | with_reducible refine QE.then_r ?_ | refine WL.move _ rfl (by decide) rfl ?_ | refine WL.assign _ rfl (by decide) rfl ?_ | refine WL.bin _ _ _ rfl (by decide) rfl rfl (fun _ => rfl) ?_ | refine WL.pick _ _ rfl (by decide) rfl rfl ?_ | refine WL.ln22 rfl (by decide) rfl ?_)
      exact QE.ret1 _ _ rfl rfl (List.nil_sublist _) ⟨congrArg Value.bool (by simp [q2]), rfl⟩
  · repeat (first | refine WC.seq ?_ | refine WC.region ?_ | refine WC.block ?_ | refine WL.move _ rfl (by decide) rfl ?_ | refine WL.ln22 rfl (by decide) rfl ?_)
    refine WC.loop (σ := Nat × List Em × Option Addr × Nat × List Int × Option Addr × Nat) (fun x => [(22, .int .i64 x.1), (21, .int .i64 ms.length), (20, .slice A ms.length c), (6, .slice x.2.2.2.2.2.1 x.2.2.2.2.1.length x.2.2.2.2.2.2), (5, .slice x.2.2.1 x.2.1.length x.2.2.2.1), (1, .slice B b0.length k)]) (fun x => .row (.slice x.2.2.1 x.2.1.length x.2.2.2.1) 37 29 x.2.1.length (emsC x.2.1) :: .row (.slice x.2.2.2.2.2.1 x.2.2.2.2.1.length x.2.2.2.2.2.2) 5 1 x.2.2.2.2.1.length (b8 x.2.2.2.2.1) :: emsR x.2.1) (fun x => x.1 ≤ ms.length ∧ x.1 ≤ 30 ∧ LL x.2.1 x.2.2.2.2.1 x.1) (fun x => ms.length - x.1) (0, [], none, 0, [], some ⟨gb, 0, none⟩, 0) ⟨Nat.zero_le _, Nat.zero_le _, Nat.le_refl _, (fun _ h => by cases h), rfl, Nat.le_refl _, (fun _ h => by cases h)⟩ (.cons rfl (.cons rfl (.cons rfl (.cons rfl (.cons rfl (.cons rfl .nil)))))) (.refl _) ?_
    rintro ⟨i, l, A5, c5, out, A6, c6⟩ ⟨g1, g2, hL⟩
    dsimp only at g1 g2 hL ⊢
    have hLn := hL.n
    have hLo := hL.len
    have h30 : LL l out 30 := ⟨by omega, hL.ok, hL.eq, by omega, hL.sm⟩
    repeat (first | refine WC.seq ?_ | refine WC.region ?_ | refine WL.bin _ _ _ rfl (by decide) rfl rfl (fun _ => rfl) ?_)
    refine WC.cond _ rfl (fun hlt => ?_) (fun hlt => ?_)
    · have hlt : (i : Int) < ms.length := of_decide_eq_true hlt
      obtain ⟨m, hmi⟩ : ∃ m, ms[i]? = some m := ⟨_, List.getElem?_eq_getElem (by omega)⟩
      have hmm := List.mem_of_getElem? hmi
      have hmc := hms m hmm
      repeat (first | refine WC.seq ?_ | refine WC.region ?_ | refine WC.block ?_ | refine WC.skip ?_ | refine WL.move _ rfl (by decide) rfl ?_)
      refine WL.idx 37 29 ms.length c .i64 A (i : Int) rfl (by decide) rfl rfl Try.underlying22 size37 (by omega) hlt (fun w hI => hR.1.1.nil) (fun ad had => ?_)
      refine WL.loadN (ad.add ((i : Int).toNat * 29)) 29 (emC m) rfl (by decide) rfl agg37 size37 rfl (fun w hI q u hq => by rw [add_add']; exact (Oct.kept0 hR.1.1 hI.kp rfl).at_ ad had _ _ (ems_at ms i m hmi q u hq)) ?_
      refine WL.alloc zeroA (evC zeroEv.n (.slice none 0 0) (.slice none 0 0)) rfl (by decide) zero37 rfl (fun g8 => ?_)
      repeat (first | refine WC.seq ?_ | refine WC.region ?_ | refine WL.nil ?_ | with_reducible refine QE.then_n ?_ | refine WL.move _ rfl (by decide) rfl ?_ | refine WL.assign _ rfl (by decide) rfl ?_ | refine WL.bin _ _ _ rfl (by decide) rfl rfl (fun _ => rfl) ?_ | refine WL.st37 0 rfl rfl rfl rfl rfl rfl rfl rfl rfl ?_)
      refine WC.cond _ rfl (fun hb => ?_) (fun hb => ?_)
      · repeat (first | refine WC.exit ?_ | with_reducible refine QE.then_e ?_ | with_reducible refine QE.blk_hit ?_ | refine QE.blk_miss rfl ?_)
        exact QE.cut (l, A5, c5, out, A6, c6) h30 (.cons rfl (.cons rfl (.cons rfl .nil))) (.cons _ (.refl _))
      have hb : ¬ (i : Int) = 30 := of_decide_eq_false hb
      repeat (first | refine WC.seq ?_ | refine WC.region ?_ | refine WC.skip ?_ | refine WL.ld37 0 rfl (by decide) rfl rfl rfl rfl ?_)
      have hfew : ∀ {H : List Ck} {w' : World}, I ⟨w, fps []⟩ H w' → EvRd w' m.e m.A6 m.A27 := fun hI => (hR.1.2 m hmm).kept hI.kp rfl
      refine WL.call [] [] [evV m.e m.A6 m.c6 m.A27 m.c27] _ [] _ (few_con m.e m.A6 m.A27 m.c6 m.c27 hmc.1 hmc.2) rfl (by decide) rfl Try.func16 rfl rfl rfl rfl (.refl _) (fun w hI => hfew hI) ?_
      rintro v H1 ⟨A1, c1, A2, c2, rfl, rfl⟩
      have hxm := few_max m.e
      have hxl := few_le m.e
      generalize hx' : fewE m.e = x' at hxm hxl ⊢
      simp only [List.cons_append, List.nil_append]
      unfold evV
      refine WL.call [] [] [evV x' A1 c1 A2 c2] _ [] _ (encode_con x' A1 A2 c1 c2 hxm) rfl (by decide) rfl Try.func23 rfl rfl rfl rfl (.refl _) (fun w hI => ok_rows 0 1 rfl rfl hI) ?_
      rintro v H1 ⟨P1, p1, rfl, rfl, hlp⟩
      simp only [List.cons_append, List.nil_append]
      cases hp : encP x' with
      | none =>
        rw [(encB_none hp).1, (encB_none hp).2]
        repeat (first | refine WC.seq ?_ | refine WC.region ?_ | refine WC.skip ?_ | refine WL.nil ?_ | with_reducible refine QE.then_n ?_ | refine WC.cond_f rfl ?_ | refine WL.move _ rfl (by decide) rfl ?_ | refine WL.assign _ rfl (by decide) rfl ?_ | refine WL.bin _ _ _ rfl (by decide) rfl rfl (fun _ => rfl) ?_ | refine WL.extract _ _ rfl (by decide) rfl (fun _ => rfl) ?_)
        exact QE.round (i + 1, l, A5, c5, out, A6, c6) ⟨by dsimp only; omega, by dsimp only; omega, hL.skip⟩ (by dsimp only; omega) (.eq rfl (by congr 1; rw [wr_i64 (by omega) (by omega)]; simp) (.cons rfl (.cons rfl (.cons rfl (.cons rfl (.cons rfl .nil)))))) (.cons _ (.cons _ (.cons _ (.cons _ (.refl _)))))
      | some y =>
        rw [(encB_of hp).1] at hlp
        rw [(encB_of hp).1, (encB_of hp).2]
        repeat (first | refine WC.seq ?_ | refine WC.region ?_ | refine WL.nil ?_ | with_reducible refine QE.then_n ?_ | refine WC.cond_t rfl ?_ | refine WL.move _ rfl (by decide) rfl ?_ | refine WL.assign _ rfl (by decide) rfl ?_ | refine WL.bin _ _ _ rfl (by decide) rfl rfl (fun _ => rfl) ?_ | refine WL.extract _ _ rfl (by decide) rfl (fun _ => rfl) ?_ | refine WL.ld37 3 rfl (by decide) rfl rfl rfl rfl ?_)
        refine WL.call [] [] [evV m.e m.A6 m.c6 m.A27 m.c27] _ [] _ (few_con m.e m.A6 m.A27 m.c6 m.c27 hmc.1 hmc.2) rfl (by decide) rfl Try.func16 rfl rfl rfl rfl (.refl _) (fun w hI => hfew hI) ?_
        rintro v H1 ⟨B1, k1, B2, k2, rfl, rfl⟩
        rw [hx']
        obtain ⟨m', hm'⟩ : ∃ m' : Em, m' = ⟨x', B1, k1, B2, k2⟩ := ⟨_, rfl⟩
        have hpm : encP m'.e = some y := by rw [hm']; exact hp
        have hsm : emS m' := by rw [hm']; exact ⟨by dsimp only; omega, by dsimp only; omega⟩
        have hmv : evV x' B1 k1 B2 k2 = .agg (emC m').toArray := by rw [hm']; rfl
        have hmr : emR m' = [.row (.slice B1 x'.nums.length k1) 3 1 x'.nums.length (i64s x'.nums), .row (.slice B2 x'.mem.length k2) 3 1 x'.mem.length (i64s x'.mem)] := by rw [hm']; rfl
        rw [hmv]
        simp only [List.cons_append, List.nil_append]
        refine WL.buildS 1 37 29 [(0, .agg (emC m').toArray)] (emC m') rfl (by decide) rfl rfl rfl (fun w => by kernel_rfl) (fun gb2 => ?_)
        refine WL.append 7 37 29 248 l.length 1 1 zeroA _ _ (emsC l) (emC m') rfl (by decide) rfl rfl Try.underlying22 info37 rfl (by decide) rfl (fun w hI => row_reads hI (i := 0) rfl) (emC_one m') (by omega) (by omega) (fun A3 c3 => ?_)
        repeat (first | refine WC.region ?_ | refine WL.move _ rfl (by decide) rfl ?_ | refine WL.assign _ rfl (by decide) rfl ?_)
        refine WL.fact (y.length ≤ p1) (fun w hI => (row_reads hI (i := 3) rfl).1) (fun hyc => ?_)
        refine WL.append 8 5 1 1 out.length y.length p1 (.int .u8 0) _ P1 (b8 out) (b8 y) rfl (by decide) rfl rfl Try.underlying39 info5 rfl (by decide) rfl (fun w hI => ⟨hyc, (row_reads hI (i := 3) rfl).2⟩) (b8_one y) (by omega) (by omega) (fun A4 c4 => ?_)
        repeat (first | refine WC.region ?_ | refine WL.nil ?_ | refine WL.move _ rfl (by decide) rfl ?_ | refine WL.assign _ rfl (by decide) rfl ?_ | refine WL.bin _ _ _ rfl (by decide) rfl rfl (fun _ => rfl) ?_)
        refine QE.perm _ (permL _ _ _ _ _ _ _ _ _ _) ?_
        refine QE.round (i + 1, l ++ [m'], A3, c3, out ++ y, A4, c4) ⟨by dsimp only; omega, by dsimp only; omega, hL.more hpm hlp hsm⟩ (by dsimp only; omega) (.eq rfl (by congr 1; rw [wr_i64 (by omega) (by omega)]; simp) (.cons rfl (.cons rfl (.eq rfl (by simp) (.eq rfl (by simp) (.cons rfl .nil)))))) ?_
        dsimp only
        rw [List.length_append, List.length_append, show emsC (l ++ [m']) = emsC l ++ emC m' by simp [emsC], show emsR (l ++ [m']) = emsR l ++ emR m' by simp [emsR], show b8 (out ++ y) = b8 out ++ b8 y by simp [b8], hmr]
        exact .cons _ (.cons _ (.cons _ (.cons _ (.cons _ (.refl _)))))
    · repeat (first | refine WC.exit ?_ | with_reducible refine QE.then_e ?_ | with_reducible refine QE.blk_hit ?_)
      exact QE.cut (l, A5, c5, out, A6, c6) h30 (.cons rfl (.cons rfl (.cons rfl .nil))) (.refl _)
end Go.Proofs.Ytalafklnnohlgaa.Cod
