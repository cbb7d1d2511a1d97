/- The references' Row, Events and SameAll. Conditions: the events can be read, their numbers are in their ranges; the bytes are such. -/
import Derived.Test.YtalafklnnohlgaaCod17
import Derived.Test.YtalafklnnohlgaaCod25
import Derived.Test.YtalafklnnohlgaaCod30
namespace Go.Proofs.Ytalafklnnohlgaa.Cod
open Go.RowKit X Go.Proofs.YtalafklnnohlgaaW.PrintLast
open Oct hiding agg39 size39
set_option linter.unusedVariables false
set_option linter.unusedSimpArgs false

section
variable {P : Program} {E : Env} {N : Nat} {ops : Array Oper} {Q : Exit → Act → World → Prop} {m : List (Nat × Value)} {H : List Ck} {ty : TypeId} {pos : String} {af : Array Edge} {g : Option (Nat × Bool)} {d : Nat}
theorem WA.loadN {HS : List Ck} {ds : List Nat} {fuel : Nat} {ls : Array Bool} {t : TypeId} {x : Operand} (i : Nat) (l' : Array Bool) (ad : Addr) (n : Nat) (vs : List Value) (hi : ops[i]? = some ⟨some d, .load t x, ty, pos, af, g⟩) (hw : Wd ops m g = some true) (hd : d < N) (hs : HS.Sublist H) (hcb : takeB .any ops ds ls l' i = true) (hQ : Qp Q) (hx : ev m x = some (.pointer (some ad)))
    (ha : ∀ w, (isAgg t).run P w = .ok true w) (hz : ∀ w, (sizeOf t).run P w = .ok n w) (hn : vs.length = n) (hl : ∀ w, Oks E HS w → ∀ j u, vs[j]? = some u → w.cell? (ad.add j) = some u) (h : WA P E N ops Q HS ds fuel l' ((d, .agg vs.toArray) :: m) H) : WA P E N ops Q HS ds (fuel + 1) ls m H :=
  WA.held i l' _ hi hw hd hs hcb hQ (fun a w hF hS => by
    have hl := loadCells_list (P := P) (w := w) (ad := ad) vs 0 #[] (fun q u hq => by simpa using hl w hS q u hq)
    rw [hn] at hl
    simp only [execOp, hF.eval hx, Instr.loadAt, Instr.sureAddr, loadVar]
    simp [ha w, hz w, loadCells, hl]) h
end
theorem oks_row {E : Env} {HS : List Ck} {w : World} {k e s n : Nat} {A : Option Addr} {c : Nat} {xs : List Value} (hS : Oks E HS w) (hk : HS[k]? = some (.row (.slice A n c) e s n xs)) : Rds w A n s xs := by
  obtain ⟨A', c', he, h1, h2⟩ := own_form (hS.1 _ (List.mem_of_getElem? hk))
  cases he
  exact h2
theorem ok_mem {E : Env} {H : List Ck} {w : World} {m : Em} (h : ∀ q ∈ emR m, q ∈ H) (hI : I E H w) : EmOk w m := by
  obtain ⟨i, hi⟩ := List.getElem?_of_mem (h (.row m.st 3 1 m.e.nums.length (i64s m.e.nums)) (by simp [emR]))
  obtain ⟨j, hj⟩ := List.getElem?_of_mem (h (.row m.tt 3 1 m.e.mem.length (i64s m.e.mem)) (by simp [emR]))
  exact ok_rows i j hi hj hI
section
variable {T : Type} {enc : TypeId × Value → T} {W : World}
theorem evs_open {cs : List Value} (h : Opn enc Try.prog W 22 cs) : ∃ A, ∃ ms : List Em, ∃ c, cs = [.slice A ms.length c] ∧ (ms.length ≤ c ∧ c ≤ maxLen) ∧ Rds W A ms.length 29 (emsC ms) ∧ ∀ m ∈ ms, cellsOk m.e m.c6 m.c27 ∧ EvRd W m.e m.A6 m.A27 ∧ wfE m.e := by
  rcases h.sl (s := 29) Try.underlying22 (by kernel_rfl) with rfl | ⟨a, len, cap, rfl, hl, hm, hi⟩
  · exact ⟨none, [], 0, rfl, ⟨Nat.le_refl _, Nat.zero_le _⟩, ⟨rfl, (fun _ => rfl), (fun _ h => by cases h)⟩, fun _ h => by cases h⟩
  · obtain ⟨ms, rfl, hq⟩ := pick_list (fun i (m : Em) => (∀ j, j < 29 → W.cell? (a.add (i * 29 + j)) = (emC m)[j]?) ∧ (cellsOk m.e m.c6 m.c27 ∧ EvRd W m.e m.A6 m.A27 ∧ wfE m.e)) len (fun i hil => by
      obtain ⟨cs', hl', hc', ho⟩ := hi i hil
      obtain ⟨x, A6, c6, A27, c27, e0, k0, r0, w0⟩ := ev_open ho
      exact ⟨⟨x, A6, c6, A27, c27⟩, (by rw [e0] at hc'; exact hc'), k0, r0, w0⟩)
    refine ⟨some a, ms, cap, rfl, ⟨hl, hm⟩, rds_flat (w := W) (a := a) (s := 29) (f := emC) (fun _ => rfl) (by decide) ms (fun i p hp => (hq i p hp).1), fun m hm => ?_⟩
    obtain ⟨i, hi'⟩ := List.getElem?_of_mem hm
    exact (hq i m hi').2
end
/-- The errors that a taker knows. -/
def ErO (er : Int) : Prop := er = 0 ∨ er = 7 ∨ er = 361
theorem nm_er {l : List Int} {wk : Nat} {er : Int} {w : Nat} (h : ErO er) : ErO (nmP l wk er w).2.2 := by
  unfold nmP
  split
  · split
    · exact .inl rfl
    · exact .inr (.inl rfl)
  · exact h
theorem ls_er {l : List Int} : ∀ (k wk : Nat) (er : Int) (xs : List Int), ErO er → ErO (lsGo l k wk er xs).2.1
  | 0, _, _, _, h => h
  | k + 1, wk, er, xs, h => by
    unfold lsGo
    split
    · exact ls_er k _ _ _ (nm_er (.inl rfl))
    · exact h
theorem step_er {l : List Int} {c : Int} {wk : Nat} {er : Int} {e : Ev} (h : ErO er) : ErO (stepT l c wk er e).2.1 := by
  have hl : ErO (lsP l wk er).2.1 := by
    unfold lsP
    refine ls_er _ _ _ _ ?_
    split
    · exact .inr (.inr rfl)
    · exact nm_er h
  unfold stepT
  split
  · exact nm_er (nm_er h)
  split
  · exact nm_er (nm_er h)
  split
  · exact hl
  split
  · exact hl
  dsimp only
  split
  · exact .inr (.inr rfl)
  · exact nm_er h
theorem go_er {l : List Int} : ∀ (cs : List Int) (wk : Nat) (er : Int) (e : Ev), ErO er → ErO (goT l cs wk er e).2.1
  | [], _, _, _, h => h
  | c :: cs, wk, er, e, h => by
    unfold goT
    split
    · exact go_er cs _ _ _ (step_er h)
    · exact h
theorem er_ite {p : Prop} [Decidable p] {a : Int} (h : ErO a) : ErO (if p then 361 else a) := by
  split
  · exact .inr (.inr rfl)
  · exact h
theorem act_er {l : List Int} {wk : Nat} {er : Int} (h : ErO er) : ErO (actP l wk er).2.1 := by
  unfold actP
  dsimp only
  refine go_er _ _ _ _ ?_
  refine er_ite ?_
  by_cases h3 : (nmP l wk er 1).1 = 3
  · rw [if_pos h3]; exact er_ite (nm_er h)
  · rw [if_neg h3]; exact nm_er (er_ite (nm_er h))
theorem wr_len (a : Ev) (h6 : a.nums.length ≤ 255) (h27 : a.mem.length ≤ 255) (c : Int) : (wrF (ltFs c) a).length ≤ 300 := by
  unfold ltFs
  split
  · simp [wrF, wrD, beB_len]
  split
  · simp [wrF, wrD, beB_len]
  split
  · simp only [wrF, wrD, List.flatMap_cons, List.flatMap_nil, List.append_nil, List.length_append, u8b_len]
    show 1 + a.nums.length ≤ 300
    omega
  split
  · simp only [wrF, wrD, List.flatMap_cons, List.flatMap_nil, List.append_nil, List.length_append, u8b_len]
    show 1 + a.mem.length ≤ 300
    omega
  simp only [wrF, List.flatMap_cons, List.flatMap_nil, List.append_nil]
  rcases ltF_kind2 c with ⟨j, w, hk, hw, _⟩ | hk | ⟨_, hk⟩
  · rw [hk]; simp only [wrD, beB_len]; omega
  · rw [hk]; simp only [wrD, beB_len]; omega
  · rw [hk]; simp [wrD]
theorem enc_len {a : Ev} {y : List Int} (ha : wfE a) (h : encP a = some y) : y.length ≤ 1300 := by
  obtain ⟨h6, h27, ls, hls⟩ := right_few (a := a) (by rw [right_eq ha, h]; rfl)
  have hl := fld_len hls
  rw [← enc_wrR h hls]
  have key : ∀ l : List Int, (l.flatMap (fun c => wrF (ltFs c) a)).length ≤ 300 * l.length := by
    intro l
    induction l with
    | nil => simp
    | cons c l ih => rw [List.flatMap_cons, List.length_append, List.length_cons]; have := wr_len a (by omega) (by omega) c; omega
  have hk := key ls
  unfold wrR
  generalize ls.flatMap (fun c => wrF (ltFs c) a) = z at hk
  rw [List.length_cons, List.length_append]
  split <;> simp <;> omega
set_option maxHeartbeats 4000000 in
set_option maxRecDepth 100000 in
theorem rowR_con (A : Option Addr) (c : Nat) (ms : List Em) (hn : ms.length ≤ maxLen) (hm : ∀ m ∈ ms, emMax m ∧ wfE m.e) :
    Con Try.prog 18 #[.slice A ms.length c] [] (fun w => EmsOk w A ms) (fun v H' => ∃ A' c', v = .tuple #[.slice A' (rowP (es ms)).1.length c', .int .i64 (rowP (es ms)).2.1, .int .i64 (rowP (es ms)).2.2] ∧ H' = [.row (.slice A' (rowP (es ms)).1.length c') 5 1 (rowP (es ms)).1.length (b8 (rowP (es ms)).1)]) := by
  simp only [maxLen] at hn
  refine Con.intro Try.func18 rfl Try.ntmps18 rfl (fun w hR => ?_)
  have hel : (es ms).length = ms.length := by simp [es]
  repeat (first | refine WC.seq ?_ | refine WC.region ?_ | refine WL.nil ?_ | with_reducible refine QE.then_n ?_ | refine WL.move _ rfl (by decide) rfl ?_ | refine WL.assign _ rfl (by decide) rfl ?_ | refine WL.bin _ _ _ rfl (by decide) rfl rfl (fun _ => rfl) ?_ | refine WL.ln22 rfl (by decide) rfl ?_)
  refine WC.cond _ rfl (fun hb => ?_) (fun hb => ?_)
  · have hb : (ms.length : Int) > 2000 := of_decide_eq_true hb
    repeat (first | refine WC.seq ?_ | refine WC.region ?_ | refine WC.ret ?_ | with_reducible refine QE.then_r ?_ | refine WL.assign _ rfl (by decide) rfl ?_)
    have e1 : rowP (es ms) = ([], 0, 3) := by unfold rowP; rw [if_pos (by rw [hel]; omega)]
    refine QE.nilrow 5 1 ?_
    exact QE.ret3 (.slice none 0 0) (.int .i64 0) (.int .i64 3) [_] rfl rfl rfl rfl (.cons_cons _ (List.nil_sublist _)) ⟨none, 0, by rw [e1]; rfl, by rw [e1]; rfl⟩
  have hb : ¬ (ms.length : Int) > 2000 := of_decide_eq_false hb
  have hle : ms.length ≤ 2000 := by omega
  have e1 : rowP (es ms) = rowGo (es ms) 0 (beB 2 ms.length) := by unfold rowP; rw [if_neg (by rw [hel]; omega), hel]
  rw [e1]
  repeat (first | refine WC.seq ?_ | refine WC.region ?_ | refine WC.skip ?_ | refine WL.move _ rfl (by decide) rfl ?_ | refine WL.cv3_53 rfl (by decide) rfl ?_ | refine WL.ln22 rfl (by decide) rfl ?_)
  refine WL.know (.int .u64 ms.length) (s := 13) rfl (congrArg _ (wr_u64 (by omega) (by omega))) ?_
  refine WL.call [] [] [.int .u64 ms.length, .int .i64 2] _ [] _ (number_con (ms.length : Int) 2 (by decide)) rfl (by decide) rfl Try.func57 rfl rfl rfl rfl (.refl _) (fun _ _ => trivial) ?_
  rintro v H1 ⟨A1, c1, rfl, rfl⟩
  rw [List.cons_append, List.nil_append]
  repeat (first | refine WC.seq ?_ | refine WC.region ?_ | refine WC.block ?_ | refine WL.move _ rfl (by decide) rfl ?_ | refine WL.assign _ rfl (by decide) rfl ?_ | refine WL.ln22 rfl (by decide) rfl ?_)
  refine WC.loop (σ := Nat × Option Addr × Nat × List Int) (fun x => [(17, .int .i64 x.1), (16, .int .i64 ms.length), (15, .slice A ms.length c), (5, .slice x.2.1 x.2.2.2.length x.2.2.1)])
    (fun x => [.row (.slice x.2.1 x.2.2.2.length x.2.2.1) 5 1 x.2.2.2.length (b8 x.2.2.2)])
    (fun x => x.1 ≤ ms.length ∧ x.2.2.2.length ≤ 2 + 1300 * x.1 ∧ rowGo ((es ms).drop x.1) x.1 x.2.2.2 = rowGo (es ms) 0 (beB 2 ms.length)) (fun x => ms.length - x.1)
    (0, A1, c1, beB 2 ms.length) ⟨Nat.zero_le _, by simp [beB_len], rfl⟩ (.cons rfl (.cons rfl (.cons rfl (.cons rfl .nil)))) (.refl _) ?_
  rintro ⟨i, A2, c2, out⟩ ⟨g1, g2, g4⟩
  dsimp only at g1 g2 g4 ⊢
  repeat (first | refine WC.seq ?_ | refine WC.region ?_ | refine WL.bin _ _ _ rfl (by decide) rfl rfl (fun _ => rfl) ?_)
  refine WC.cond _ rfl (fun hb2 => ?_) (fun hb2 => ?_)
  · have hb2 : (i : Int) < ms.length := of_decide_eq_true hb2
    obtain ⟨m, hmi⟩ : ∃ m, ms[i]? = some m := ⟨_, List.getElem?_eq_getElem (by omega)⟩
    have hmm := List.mem_of_getElem? hmi
    have hei : (es ms)[i]? = some m.e := by simp [es, hmi]
    have hdr : (es ms).drop i = m.e :: (es ms).drop (i + 1) := by
      rw [List.drop_eq_getElem_cons (by rw [hel]; omega), (List.getElem?_eq_some_iff.1 hei).2]
    rw [hdr] at g4
    have hwf := (hm m hmm).2
    repeat (first | refine WC.seq ?_ | refine WC.region ?_ | refine WC.block ?_ | refine WC.skip ?_ | refine WL.move _ rfl (by decide) rfl ?_)
    refine WL.idx 37 29 ms.length c .i64 A (i : Int) rfl (by decide) rfl rfl Try.underlying22 size37 (by omega) hb2 (fun w hI => hR.1.nil) (fun ad had => ?_)
    refine WL.loadN (ad.add ((i : Int).toNat * 29)) 29 (emC m) rfl (by decide) rfl agg37 size37 rfl (fun w hI q u hq => by rw [add_add']; exact (hR.kept hI.kp rfl).1.at_ ad had _ _ (ems_at ms i m hmi q u hq)) ?_
    refine WL.alloc zeroA (evC zeroEv.n (.slice none 0 0) (.slice none 0 0)) rfl (by decide) zero37 rfl (fun g7 => ?_)
    repeat (first | refine WC.seq ?_ | refine WC.region ?_ | refine WL.assign _ rfl (by decide) rfl ?_ | refine WL.ld37 0 rfl (by decide) rfl rfl rfl rfl ?_ | refine WL.st37 0 rfl rfl rfl rfl rfl rfl rfl rfl rfl ?_)
    refine WL.call [] [] [evV m.e m.A6 m.c6 m.A27 m.c27] _ [] _ (right_con m.e m.A6 m.A27 m.c6 m.c27 hwf (hm m hmm).1) rfl (by decide) rfl Try.func52 rfl rfl rfl rfl (.refl _) (fun w hI => ((hR.kept hI.kp rfl).2 m hmm).1) ?_
    rintro v H1 ⟨rfl, rfl⟩
    rw [List.nil_append, right_eq hwf]
    cases hp : encP m.e with
    | none =>
      have e2 : rowGo (es ms) 0 (beB 2 ms.length) = ([], (i : Int), 360) := by rw [← g4]; simp only [rowGo, hp]
      rw [Option.isSome_none]
      repeat (first | refine WC.seq ?_ | refine WC.region ?_ | refine WC.ret ?_ | refine WL.nil ?_ | with_reducible refine QE.then_n ?_ | with_reducible refine QE.then_r ?_ | with_reducible refine QE.blk_r ?_ | refine WC.cond_t rfl ?_ | refine WL.move _ rfl (by decide) rfl ?_ | refine WL.assign _ rfl (by decide) rfl ?_ | refine WL.un _ _ rfl (by decide) rfl (fun _ => rfl) ?_)
      refine QE.nilrow 5 1 ?_
      exact QE.ret3 (.slice none 0 0) (.int .i64 i) (.int .i64 360) [_] rfl rfl rfl rfl (.cons_cons _ (List.nil_sublist _)) ⟨none, 0, by rw [e2]; rfl, by rw [e2]; rfl⟩
    | some y =>
      obtain ⟨h6, h27, ls, hls⟩ := right_few (a := m.e) (by rw [right_eq hwf, hp]; rfl)
      have hyl := enc_len hwf hp
      rw [Option.isSome_some]
      repeat (first | refine WC.region ?_ | refine WC.skip ?_ | refine WL.nil ?_ | with_reducible refine QE.then_n ?_ | refine WC.cond_f rfl ?_ | refine WL.move _ rfl (by decide) rfl ?_ | refine WL.un _ _ rfl (by decide) rfl (fun _ => rfl) ?_ | refine WL.ld37 0 rfl (by decide) rfl rfl rfl rfl ?_)
      refine WL.call [] [] [evV m.e m.A6 m.c6 m.A27 m.c27] _ [] _ (bytesR_con m.e m.A6 m.A27 m.c6 m.c27 ls hls ⟨by omega, by omega⟩) rfl (by decide) rfl Try.func54 rfl rfl rfl rfl (.refl _) (fun w hI => ((hR.kept hI.kp rfl).2 m hmm).1) ?_
      rw [enc_wrR hp hls]
      rintro v H1 ⟨P1, p1, rfl, rfl⟩
      simp only [List.cons_append, List.nil_append]
      refine WL.append 2 5 1 1 out.length y.length p1 (.int .u8 0) _ P1 (b8 out) (b8 y) rfl (by decide) rfl rfl Try.underlying39 info5 rfl (by decide) rfl (fun w hI => row_reads hI (i := 0) rfl) (b8_one y) (by omega) (by omega) (fun A3 c3 => ?_)
      repeat (first | refine WC.region ?_ | refine WL.nil ?_ | refine WL.move _ rfl (by decide) rfl ?_ | refine WL.assign _ rfl (by decide) rfl ?_ | refine WL.bin _ _ _ rfl (by decide) rfl rfl (fun _ => rfl) ?_)
      refine QE.round (i + 1, A3, c3, out ++ y) ⟨by dsimp only; omega, by simp; omega, ?_⟩ (by dsimp only; omega) (.eq rfl (by congr 1; rw [wr_i64 (by omega) (by omega)]; simp) (.cons rfl (.cons rfl (.eq rfl (by simp) .nil)))) ?_
      · rw [← g4]; simp only [rowGo, hp]
      · dsimp only
        rw [List.length_append, b8_app]
        exact .cons _ (.cons _ (.refl _))
  · have hb2 : ¬ (i : Int) < ms.length := of_decide_eq_false hb2
    have hnil : (es ms).drop i = [] := List.drop_eq_nil_of_le (by rw [hel]; omega)
    rw [hnil] at g4
    have e2 : rowGo (es ms) 0 (beB 2 ms.length) = (out, 0, 0) := by rw [← g4]; rfl
    rw [e2]
    repeat (first | refine WC.seq ?_ | refine WC.region ?_ | refine WC.exit ?_ | refine WC.ret ?_ | refine WL.move _ rfl (by decide) rfl ?_ | refine WL.assign _ rfl (by decide) rfl ?_)
    exact QE.ret3 (.slice A2 out.length c2) (.int .i64 0) (.int .i64 0) [_] rfl rfl rfl rfl (.refl _) ⟨A2, c2, rfl, rfl⟩
set_option maxHeartbeats 4000000 in
set_option maxRecDepth 100000 in
/-- The same events, wherever they stand. -/
theorem sameAll_con (A B : Option Addr) (c k : Nat) (ms ns : List Em) (hn : ms.length ≤ maxLen) (he : es ms = es ns) (hm : ∀ m ∈ ms, emMax m ∧ g26 m.e) (hns : ∀ m ∈ ns, emMax m) :
    Con Try.prog 22 #[.slice A ms.length c, .slice B ns.length k] [] (fun w => EmsOk w A ms ∧ EmsOk w B ns) (same (.bool true) []) := by
  simp only [maxLen] at hn
  have hlen : ms.length = ns.length := by have := congrArg List.length he; simpa [es] using this
  refine Con.intro Try.func22 rfl Try.ntmps22 rfl (fun w hR => ?_)
  repeat (first | refine WC.seq ?_ | refine WC.region ?_ | refine WL.nil ?_ | with_reducible refine QE.then_n ?_ | refine WL.move _ rfl (by decide) rfl ?_ | refine WL.assign _ rfl (by decide) rfl ?_ | refine WL.bin _ _ _ rfl (by decide) rfl rfl (fun _ => rfl) ?_ | refine WL.ln22 rfl (by decide) rfl ?_)
  refine WC.cond_f (by show some (Value.bool _) = _; simp [hlen]) ?_
  repeat (first | refine WC.seq ?_ | refine WC.region ?_ | refine WC.block ?_ | refine WC.skip ?_ | refine WL.move _ rfl (by decide) rfl ?_ | refine WL.ln22 rfl (by decide) rfl ?_)
  refine WC.loop (σ := Nat) (fun i => [(13, .int .i64 i), (12, .int .i64 ms.length), (0, .slice A ms.length c), (1, .slice B ns.length k)]) (fun _ => []) (fun i => i ≤ ms.length) (fun i => ms.length - i) 0 (Nat.zero_le _) (.cons rfl (.cons rfl (.cons rfl (.cons rfl .nil)))) (.refl _) ?_
  intro i hi
  repeat (first | refine WC.seq ?_ | refine WC.region ?_ | refine WL.bin _ _ _ rfl (by decide) rfl rfl (fun _ => rfl) ?_)
  refine WC.cond _ rfl (fun hlt => ?_) (fun hlt => ?_)
  rotate_left
  · repeat (first | refine WC.seq ?_ | refine WC.region ?_ | refine WC.exit ?_ | refine WC.ret ?_ | refine WL.assign _ rfl (by decide) rfl ?_)
    exact QE.ret1 _ _ rfl rfl (.refl _) ⟨rfl, rfl⟩
  have hlt : (i : Int) < ms.length := of_decide_eq_true hlt
  obtain ⟨m1, hm1⟩ : ∃ m, ms[i]? = some m := ⟨_, List.getElem?_eq_getElem (by omega)⟩
  obtain ⟨m2, hm2⟩ : ∃ m, ns[i]? = some m := ⟨_, List.getElem?_eq_getElem (by omega)⟩
  have hmm1 := List.mem_of_getElem? hm1
  have hmm2 := List.mem_of_getElem? hm2
  have hee : m1.e = m2.e := by
    have h1 : (es ms)[i]? = some m1.e := by simp [es, hm1]
    have h2 : (es ns)[i]? = some m2.e := by simp [es, hm2]
    rw [he, h2] at h1; exact (Option.some.inj h1).symm
  have h26 := (hm m1 hmm1).2
  have hA0 := hR.1.1.nil
  have hB0 := hR.2.1.nil
  cases A with
  | none => have := hA0 rfl; omega
  | some ad1 =>
  cases B with
  | none => have := hB0 rfl; omega
  | some ad2 =>
  repeat (first | refine WC.seq ?_ | refine WC.region ?_ | refine WC.block ?_ | refine WC.skip ?_ | refine WL.move _ rfl (by decide) rfl ?_ | refine WL.assign _ rfl (by decide) rfl ?_)
  refine WC.draw 10 #[false, false, false, false, false, false, false, false, false, false] [] [] (by kernel_rfl) rfl rfl (by repeat (first | exact List.Sublist.refl _ | exact List.nil_sublist _ | refine List.Sublist.cons_cons _ ?_ | refine List.Sublist.cons _ ?_)) ?_
  refine WA.move 0 #[true, false, false, false, false, false, false, false, false, false] _ rfl rfl rfl (by decide) (by kernel_rfl) (by repeat (first | with_reducible refine Qp.then ?_ | with_reducible refine Qp.blk ?_ | with_reducible exact Qp.body)) ?_
  refine WA.move 1 #[true, true, false, false, false, false, false, false, false, false] _ rfl rfl rfl (by decide) (by kernel_rfl) (by repeat (first | with_reducible refine Qp.then ?_ | with_reducible refine Qp.blk ?_ | with_reducible exact Qp.body)) ?_
  refine WA.idx 2 #[true, true, true, false, false, false, false, false, false, false] 37 29 ms.length c .i64 ad1 (i : Int) Try.underlying22 size37 (by omega) hlt rfl rfl rfl rfl (by decide) (by kernel_rfl) (by repeat (first | with_reducible refine Qp.then ?_ | with_reducible refine Qp.blk ?_ | with_reducible exact Qp.body)) ?_
  refine WA.loadN 3 #[true, true, true, true, false, false, false, false, false, false] (ad1.add ((i : Int).toNat * 29)) 29 (emC m1) rfl rfl (by decide) (List.nil_sublist _) (by kernel_rfl) (by repeat (first | with_reducible refine Qp.then ?_ | with_reducible refine Qp.blk ?_ | with_reducible exact Qp.body)) rfl agg37 size37 rfl (fun w hS q u hq => by rw [add_add']; exact (Oct.kept0 hR.1.1 hS.2 rfl).at_ ad1 rfl _ _ (ems_at ms i m1 hm1 q u hq)) ?_
  refine WA.move 4 #[true, true, true, true, true, false, false, false, false, false] _ rfl rfl rfl (by decide) (by kernel_rfl) (by repeat (first | with_reducible refine Qp.then ?_ | with_reducible refine Qp.blk ?_ | with_reducible exact Qp.body)) ?_
  refine WA.move 5 #[true, true, true, true, true, true, false, false, false, false] _ rfl rfl rfl (by decide) (by kernel_rfl) (by repeat (first | with_reducible refine Qp.then ?_ | with_reducible refine Qp.blk ?_ | with_reducible exact Qp.body)) ?_
  refine WA.idx 6 #[true, true, true, true, true, true, true, false, false, false] 37 29 ns.length k .i64 ad2 (i : Int) Try.underlying22 size37 (by omega) (by omega) rfl rfl rfl rfl (by decide) (by kernel_rfl) (by repeat (first | with_reducible refine Qp.then ?_ | with_reducible refine Qp.blk ?_ | with_reducible exact Qp.body)) ?_
  refine WA.loadN 7 #[true, true, true, true, true, true, true, true, false, false] (ad2.add ((i : Int).toNat * 29)) 29 (emC m2) rfl rfl (by decide) (List.nil_sublist _) (by kernel_rfl) (by repeat (first | with_reducible refine Qp.then ?_ | with_reducible refine Qp.blk ?_ | with_reducible exact Qp.body)) rfl agg37 size37 rfl (fun w hS q u hq => by rw [add_add']; exact (Oct.kept0 hR.2.1 hS.2 rfl).at_ ad2 rfl _ _ (ems_at ns i m2 hm2 q u hq)) ?_
  refine WA.call 8 #[true, true, true, true, true, true, true, true, true, false] [] [] [evV m1.e m1.A6 m1.c6 m1.A27 m1.c27, evV m2.e m2.A6 m2.c6 m2.A27 m2.c27] _ [] _ (sameR_con m1.e m2.e m1.A6 m1.A27 m2.A6 m2.A27 m1.c6 m1.c27 m2.c6 m2.c27 (hm m1 hmm1).1 (hns m2 hmm2) h26 (hee ▸ h26)) rfl rfl (by decide) (by kernel_rfl) rfl rfl Try.func50 rfl rfl rfl rfl (.refl _) (fun w hI => ⟨((hR.1.kept hI.kp rfl).2 m1 hmm1).1, ((hR.2.kept hI.kp rfl).2 m2 hmm2).1⟩) ?_
  rintro v H1 ⟨rfl, rfl⟩
  rw [List.nil_append, hee, same_refl]
  refine ⟨(List.nil_sublist _), ?_⟩
  refine WA.un 9 #[true, true, true, true, true, true, true, true, true, true] _ _ rfl (fun _ => rfl) rfl rfl (by decide) (by kernel_rfl) (by repeat (first | with_reducible refine Qp.then ?_ | with_reducible refine Qp.blk ?_ | with_reducible exact Qp.body)) ?_
  refine WA.done (by kernel_rfl) ?_
  repeat (first | refine WC.region ?_ | refine WC.skip ?_ | refine WL.nil ?_ | with_reducible refine QE.then_n ?_ | refine WC.cond_f rfl ?_ | refine WL.move _ rfl (by decide) rfl ?_ | refine WL.bin _ _ _ rfl (by decide) rfl rfl (fun _ => rfl) ?_)
  exact QE.round (i + 1) (by omega) (by omega) (.eq rfl (by congr 1; rw [wr_i64 (by omega) (by omega)]; simp) (.cons rfl (.cons rfl (.cons rfl .nil)))) (.refl _)
theorem permT (t a b r : Ck) (X : List Ck) : (t :: r :: (X ++ [a, b])).Perm (t :: a :: b :: r :: X) := .cons _ (List.perm_append_comm (l₁ := r :: X) (l₂ := [a, b]))
def e0 (er : Int) : Int := if er = 361 then 0 else er
theorem resOf_T {er : Int} {b : List Int} {wk : Nat} {e : Ev} (h : ErO er) : resOf (er == 361) (e0 er) b wk e = resT er (b.drop wk) e := by
  rcases h with rfl | rfl | rfl <;> rfl
set_option maxHeartbeats 8000000 in
set_option maxRecDepth 100000 in
theorem eventsR_con (A : Option Addr) (c : Nat) (b : List Int) (hc : b.length ≤ c) (hn : b.length ≤ 140737488355328) (hb : Byt b) :
    Con Try.prog 21 #[.slice A b.length c] [] (fun w => Rds w A b.length 1 (b8 b)) (fun v H' => ∃ A' c' ms, v = .tuple #[.slice A' (ms : List Em).length c', .int .i64 (evsP b).2.1, .int .i64 (evsP b).2.2] ∧ es ms = (evsP b).1 ∧ H' = emsH A' c' ms ∧ (∀ m ∈ ms, emS m) ∧ ms.length ≤ 2000) := by
  refine Con.intro Try.func21 rfl Try.ntmps21 rfl (fun w hR => ?_)
  have hbr : BRd w [] A b := ⟨hR, fun _ ad _ hh => by obtain ⟨_, h, _⟩ := hh; cases h⟩
  repeat (first | refine WC.seq ?_ | refine WC.region ?_ | refine WL.move _ rfl (by decide) rfl ?_ | refine WL.assign _ rfl (by decide) rfl ?_)
  refine WL.build [(0, .slice A b.length c)] (.agg #[.slice A b.length c, .int .i64 0]) rfl (by decide) rfl (fun w => by kernel_rfl) ?_
  refine WL.box _ [.slice A b.length c, .int .i64 0] rfl (by decide) rfl rfl (fun tg => ?_)
  repeat (first | refine WC.seq ?_ | refine WC.region ?_ | refine WL.move _ rfl (by decide) rfl ?_ | refine WL.assign _ rfl (by decide) rfl ?_)
  refine WL.call [] [] [pt tg, .int .i64 2] _ (tkH tg A c b.length 0 0) [] (num_con tg A A c b 0 0 2 (by decide) hc hn (Nat.zero_le _) (.zero A _)) rfl (by decide) rfl Try.func61 rfl rfl rfl rfl (by rw [List.append_nil]; exact .refl _) (fun w hI => hbr.nows rfl hI (fun q hq => hq)) ?_
  rintro v H1 ⟨B1, rfl, rfl, ha1, hk1⟩
  rw [List.append_nil]
  obtain ⟨n, wk, er, hv, hG, he1, h2000⟩ : ∃ (n wk : Nat) (er : Int), nmP b 0 0 2 = ((n : Int), wk, er) ∧ (n ≤ 2000 → EL b (evG b) n [] wk er false) ∧ (er = 0 ∨ er = 7) ∧ (2000 < n ↔ (2 ≤ b.length ∧ 2000 < beU (b.take 2))) := by
    by_cases h2 : 0 + 2 ≤ b.length
    · have h2' : 2 ≤ b.length := by omega
      have hlen : (b.take 2).length = 2 := by simp; omega
      have hr := beU_rg 2 (b.take 2) hlen (by decide) (byt_take hb 2)
      refine ⟨(beU (b.take 2)).toNat, 2, 0, ?_, fun _ => ⟨h2', .inl rfl, Nat.zero_le _, (fun _ h => by cases h), (fun _ _ => ?_), (fun h => by cases h), (fun h => by cases h)⟩, .inl rfl, ?_⟩
      · unfold nmP; rw [if_pos rfl, if_pos h2, List.drop_zero, Nat.zero_add, Int.toNat_of_nonneg hr.1]
      · unfold evG; rw [if_neg (by omega)]; rfl
      · constructor
        · intro h; exact ⟨h2', by omega⟩
        · rintro ⟨_, h⟩; omega
    · refine ⟨0, 0, 7, ?_, fun _ => ⟨Nat.zero_le _, .inr rfl, Nat.zero_le _, (fun _ h => by cases h), (fun h => by cases h), (fun _ _ => ?_), (fun h => by cases h)⟩, .inr rfl, ?_⟩
      · unfold nmP; rw [if_pos rfl, if_neg h2]; rfl
      · unfold evG; rw [if_pos (by omega)]; rfl
      · constructor
        · intro h; omega
        · rintro ⟨h, _⟩; omega
  have hp0 := nmP_0 hb 0 0 2 (by decide)
  rw [hv] at ha1 hk1 hp0 ⊢
  dsimp only at ha1 hk1 hp0 ⊢
  rw [show (256 : Int) ^ 2 = 65536 by decide] at hp0
  have hread : ∀ {H H' : List Ck} {w' : World}, I ⟨w, fps []⟩ H w' → (∀ q ∈ H', q ∈ H) → BRd w' H' A b := fun hI hs => hbr.nows rfl hI hs
  unfold tkH
  repeat (first | refine WC.seq ?_ | refine WC.region ?_ | refine WL.nil ?_ | with_reducible refine QE.then_n ?_ | refine WL.move _ rfl (by decide) rfl ?_ | refine WL.assign _ rfl (by decide) rfl ?_ | refine WL.bin _ _ _ rfl (by decide) rfl rfl (fun _ => rfl) ?_ | refine WL.cv53_3 rfl (by decide) rfl ?_)
  refine WC.know (.int .i64 n) (s := 6) rfl (congrArg _ (wr_i64 (by omega) (by omega))) ?_
  refine WC.know (.bool (decide ((n : Int) > 2000))) (s := 16) rfl (congrArg Value.bool (by rw [wr_i64 (by omega) (by omega)])) ?_
  refine WC.cond _ rfl (fun hbg => ?_) (fun hbg => ?_)
  · have hbg : (n : Int) > 2000 := of_decide_eq_true hbg
    have e1 : evsP b = ([], 0, 3) := by unfold evsP; rw [if_pos (h2000.1 (by omega))]
    repeat (first | refine WC.seq ?_ | refine WC.region ?_ | refine WC.block ?_ | refine WL.move _ rfl (by decide) rfl ?_ | refine WL.assign _ rfl (by decide) rfl ?_ | refine WL.nilc _ rfl (by decide) rfl ?_ | refine WL.fd101_1 rfl (by decide) rfl ?_ | refine WL.st40 0 rfl rfl rfl rfl rfl rfl rfl rfl rfl ?_)
    refine WC.loop (σ := Unit) (fun _ => [(7, .slice none 0 0), (6, .int .i64 n), (5, .pointer (some ⟨tg, 0, none⟩))]) (fun _ => [.blk tg [.slice B1 (b.length - wk) (c - wk), .int .i64 3] 101]) (fun _ => True) (fun _ => 0) () trivial (.cons rfl (.cons rfl (.cons rfl .nil))) (.refl _) ?_
    rintro _ _
    repeat (first | refine WC.seq ?_ | refine WC.region ?_ | refine WL.move _ rfl (by decide) rfl ?_ | refine WL.bin _ _ _ rfl (by decide) rfl rfl (fun _ => rfl) ?_ | refine WL.ln22 rfl (by decide) rfl ?_)
    refine WL.know (.bool true) (s := 24) rfl (congrArg Value.bool (decide_eq_true (by omega))) ?_
    repeat (first | refine WC.seq ?_ | refine WC.region ?_ | refine WC.skip ?_ | refine WC.exit ?_ | refine WL.nil ?_ | with_reducible refine QE.then_n ?_ | refine WC.cond_t rfl ?_ | refine WC.cond_f rfl ?_ | refine WL.move _ rfl (by decide) rfl ?_ | refine WL.bin _ _ _ rfl (by decide) rfl rfl (fun _ => rfl) ?_ | refine WL.nilc _ rfl (by decide) rfl ?_ | refine WL.off rfl (by decide) ?_ | refine WL.pick _ _ rfl (by decide) rfl rfl ?_ | refine WL.fd101_1 rfl (by decide) rfl ?_ | refine WL.ld40 0 rfl (by decide) rfl rfl rfl ?_)
    refine WC.draw 9 #[false, false, false, false, false, false, false, false, false] [.blk tg [.slice B1 (b.length - wk) (c - wk), .int .i64 3] 101] [] (by kernel_rfl) rfl rfl (by repeat (first | exact List.Sublist.refl _ | exact List.nil_sublist _ | refine List.Sublist.cons_cons _ ?_ | refine List.Sublist.cons _ ?_)) ?_
    refine WA.move 0 #[true, false, false, false, false, false, false, false, false] _ rfl rfl rfl (by decide) (by kernel_rfl) (by repeat (first | with_reducible refine Qp.then ?_ | with_reducible refine Qp.blk ?_ | with_reducible exact Qp.body)) ?_
    refine WA.len 1 #[true, true, false, false, false, false, false, false, false] _ _ _ _ Try.underlying22 rfl rfl rfl (by decide) (by kernel_rfl) (by repeat (first | with_reducible refine Qp.then ?_ | with_reducible refine Qp.blk ?_ | with_reducible exact Qp.body)) ?_
    refine WA.move 2 #[true, true, true, false, false, false, false, false, false] _ rfl rfl rfl (by decide) (by kernel_rfl) (by repeat (first | with_reducible refine Qp.then ?_ | with_reducible refine Qp.blk ?_ | with_reducible exact Qp.body)) ?_
    refine WA.nilc 3 #[true, true, true, true, false, false, false, false, false] _ rfl rfl rfl (by decide) (by kernel_rfl) (by repeat (first | with_reducible refine Qp.then ?_ | with_reducible refine Qp.blk ?_ | with_reducible exact Qp.body)) ?_
    refine WA.faddr 4 #[true, true, true, true, true, false, false, false, false] _ _ rfl (fa101_1 _ _) rfl rfl (by decide) (by kernel_rfl) (by repeat (first | with_reducible refine Qp.then ?_ | with_reducible refine Qp.blk ?_ | with_reducible exact Qp.body)) ?_
    refine WA.load 5 #[true, true, true, true, true, true, false, false, false] 0 _ _ _ _ _ rfl rfl (by decide) (by repeat (first | exact List.Sublist.refl _ | exact List.nil_sublist _ | refine List.Sublist.cons_cons _ ?_ | refine List.Sublist.cons _ ?_)) (by kernel_rfl) (by repeat (first | with_reducible refine Qp.then ?_ | with_reducible refine Qp.blk ?_ | with_reducible exact Qp.body)) rfl agg40 rfl rfl ?_
    refine WA.assign 6 #[true, true, true, true, true, true, true, false, false] _ rfl rfl rfl (by decide) (by kernel_rfl) (by repeat (first | with_reducible refine Qp.then ?_ | with_reducible refine Qp.blk ?_ | with_reducible exact Qp.body)) ?_
    refine WA.assign 7 #[true, true, true, true, true, true, true, true, false] _ rfl rfl rfl (by decide) (by kernel_rfl) (by repeat (first | with_reducible refine Qp.then ?_ | with_reducible refine Qp.blk ?_ | with_reducible exact Qp.body)) ?_
    refine WA.assign 8 #[true, true, true, true, true, true, true, true, true] _ rfl rfl rfl (by decide) (by kernel_rfl) (by repeat (first | with_reducible refine Qp.then ?_ | with_reducible refine Qp.blk ?_ | with_reducible exact Qp.body)) ?_
    refine WA.done (by kernel_rfl) ?_
    repeat (first | refine WC.ret ?_ | with_reducible refine QE.then_r ?_)
    refine QE.nilrow 37 29 ?_
    exact QE.ret3 (.slice none 0 0) (.int .i64 0) (.int .i64 3) [_] rfl rfl rfl rfl (.cons_cons _ (List.nil_sublist _)) ⟨none, 0, [], by rw [e1]; rfl, by rw [e1]; rfl, rfl, (fun _ h => by cases h), Nat.zero_le _⟩
  have hbg : ¬ (n : Int) > 2000 := of_decide_eq_false hbg
  have hn2 : n ≤ 2000 := by omega
  have hEL := hG hn2
  have e1 : evsP b = (if endE (evG b).2 = 0 then (evG b).1 else [], ((evG b).1.length : Int), endE (evG b).2) := by unfold evsP; rw [if_neg (fun h => by have := h2000.2 h; omega)]
  repeat (first | refine WC.skip ?_ | with_reducible refine QE.then_n ?_)
  refine WC.seq ?_
  repeat (first | refine WC.region ?_ | refine WL.nil ?_ | with_reducible refine QE.then_n ?_ | refine WL.assign _ rfl (by decide) rfl ?_)
  refine WC.nilrow 37 29 ?_
  refine WC.perm (tkH tg B1 c b.length wk er ++ emsH none 0 []) (.swap _ _ _) ?_
  have hErO : ErO er := by rcases he1 with h | h; exact .inl h; exact .inr (.inl h)
  have hEL0 : EL b (evG b) n [] wk (e0 er) (er == 361) := by rcases he1 with rfl | rfl <;> exact hEL
  refine WC.cut (σ := List Em × Option Addr × Nat × Option Addr × Nat × Int) (fun x => [(7, .slice x.2.1 x.1.length x.2.2.1), (5, .pointer (some ⟨tg, 0, none⟩))]) (fun x => tkH tg x.2.2.2.1 c b.length x.2.2.2.2.1 x.2.2.2.2.2 ++ emsH x.2.1 x.2.2.1 x.1) (fun x => EL b (evG b) n x.1 x.2.2.2.2.1 (e0 x.2.2.2.2.2) (x.2.2.2.2.2 == 361) ∧ ErO x.2.2.2.2.2 ∧ (x.1.length = n ∨ x.2.2.2.2.2 ≠ 0)) ?_ ?_
  · rintro ⟨ms, A2, c2, B2, wk2, er2⟩ ⟨hel, hO, hx⟩
    dsimp only at hel hO hx ⊢
    have hmle := hel.le
    have hwk2 := hel.kw
    have hsm := hel.sm
    obtain ⟨d1, d2⟩ := hel.done (by
      rcases hx with hx | hx
      · exact .inl hx
      · rcases hO with h | rfl | rfl
        · exact absurd h hx
        · exact .inr (.inr rfl)
        · exact .inr (.inl rfl))
    unfold tkH emsH
    simp only [List.cons_append, List.nil_append]
    rcases hO with rfl | rfl | rfl
    · have d2 : endE (evG b).2 = if wk2 < b.length then 361 else 0 := d2
      repeat (first | refine WC.seq ?_ | refine WC.region ?_ | refine WL.nil ?_ | with_reducible refine QE.then_n ?_ | refine WL.move _ rfl (by decide) rfl ?_ | refine WL.bin _ _ _ rfl (by decide) rfl rfl (fun _ => rfl) ?_ | refine WL.nilc _ rfl (by decide) rfl ?_ | refine WL.pick _ _ rfl (by decide) rfl rfl ?_ | refine WL.fd101_0 rfl (by decide) rfl ?_ | refine WL.fd101_1 rfl (by decide) rfl ?_ | refine WL.ln39 rfl (by decide) rfl ?_ | refine WL.ld39 0 rfl (by decide) rfl rfl rfl ?_ | refine WL.ld40 0 rfl (by decide) rfl rfl rfl ?_)
      rcases Nat.lt_or_ge wk2 b.length with hl | hl
      · rw [if_pos hl] at d2
        refine WC.cond_t (by show some (Value.bool (decide _)) = _; rw [decide_eq_true (by omega)]) ?_
        repeat (first | refine WC.seq ?_ | refine WC.region ?_ | refine WL.nil ?_ | with_reducible refine QE.then_n ?_ | refine WC.cond_t rfl ?_ | refine WL.move _ rfl (by decide) rfl ?_ | refine WL.bin _ _ _ rfl (by decide) rfl rfl (fun _ => rfl) ?_ | refine WL.nilc _ rfl (by decide) rfl ?_ | refine WL.fd101_1 rfl (by decide) rfl ?_ | refine WL.ld40 0 rfl (by decide) rfl rfl rfl ?_ | refine WL.st40 0 rfl rfl rfl rfl rfl rfl rfl rfl rfl ?_)
        refine WC.draw 9 #[false, false, false, false, false, false, false, false, false] [.blk tg [.slice B2 (b.length - wk2) (c - wk2), .int .i64 361] 101] [] (by kernel_rfl) rfl rfl (by repeat (first | exact List.Sublist.refl _ | exact List.nil_sublist _ | refine List.Sublist.cons_cons _ ?_ | refine List.Sublist.cons _ ?_)) ?_
        refine WA.move 0 #[true, false, false, false, false, false, false, false, false] _ rfl rfl rfl (by decide) (by kernel_rfl) (by repeat (first | with_reducible refine Qp.then ?_ | with_reducible refine Qp.blk ?_ | with_reducible exact Qp.body)) ?_
        refine WA.len 1 #[true, true, false, false, false, false, false, false, false] _ _ _ _ Try.underlying22 rfl rfl rfl (by decide) (by kernel_rfl) (by repeat (first | with_reducible refine Qp.then ?_ | with_reducible refine Qp.blk ?_ | with_reducible exact Qp.body)) ?_
        refine WA.move 2 #[true, true, true, false, false, false, false, false, false] _ rfl rfl rfl (by decide) (by kernel_rfl) (by repeat (first | with_reducible refine Qp.then ?_ | with_reducible refine Qp.blk ?_ | with_reducible exact Qp.body)) ?_
        refine WA.nilc 3 #[true, true, true, true, false, false, false, false, false] _ rfl rfl rfl (by decide) (by kernel_rfl) (by repeat (first | with_reducible refine Qp.then ?_ | with_reducible refine Qp.blk ?_ | with_reducible exact Qp.body)) ?_
        refine WA.faddr 4 #[true, true, true, true, true, false, false, false, false] _ _ rfl (fa101_1 _ _) rfl rfl (by decide) (by kernel_rfl) (by repeat (first | with_reducible refine Qp.then ?_ | with_reducible refine Qp.blk ?_ | with_reducible exact Qp.body)) ?_
        refine WA.load 5 #[true, true, true, true, true, true, false, false, false] 0 _ _ _ _ _ rfl rfl (by decide) (by repeat (first | exact List.Sublist.refl _ | exact List.nil_sublist _ | refine List.Sublist.cons_cons _ ?_ | refine List.Sublist.cons _ ?_)) (by kernel_rfl) (by repeat (first | with_reducible refine Qp.then ?_ | with_reducible refine Qp.blk ?_ | with_reducible exact Qp.body)) rfl agg40 rfl rfl ?_
        refine WA.assign 6 #[true, true, true, true, true, true, true, false, false] _ rfl rfl rfl (by decide) (by kernel_rfl) (by repeat (first | with_reducible refine Qp.then ?_ | with_reducible refine Qp.blk ?_ | with_reducible exact Qp.body)) ?_
        refine WA.assign 7 #[true, true, true, true, true, true, true, true, false] _ rfl rfl rfl (by decide) (by kernel_rfl) (by repeat (first | with_reducible refine Qp.then ?_ | with_reducible refine Qp.blk ?_ | with_reducible exact Qp.body)) ?_
        refine WA.assign 8 #[true, true, true, true, true, true, true, true, true] _ rfl rfl rfl (by decide) (by kernel_rfl) (by repeat (first | with_reducible refine Qp.then ?_ | with_reducible refine Qp.blk ?_ | with_reducible exact Qp.body)) ?_
        refine WA.done (by kernel_rfl) ?_
        repeat (first | refine WC.ret ?_ | with_reducible refine QE.then_r ?_)
        refine QE.nilrow 37 29 ?_
        exact QE.ret3 (.slice none 0 0) (.int .i64 ms.length) (.int .i64 361) [_] rfl rfl rfl rfl (.cons_cons _ (List.nil_sublist _)) ⟨none, 0, [], by rw [e1, d1, d2]; simp [es], by rw [e1, d2]; simp [es], rfl, (fun _ h => by cases h), Nat.zero_le _⟩
      · rw [if_neg (by omega)] at d2
        refine WC.cond_f (by show some (Value.bool (decide _)) = _; rw [decide_eq_false (by omega)]) ?_
        repeat (first | refine WC.seq ?_ | refine WC.region ?_ | refine WC.skip ?_ | refine WC.ret ?_ | refine WL.nil ?_ | with_reducible refine QE.then_n ?_ | refine WC.cond_f rfl ?_ | refine WL.move _ rfl (by decide) rfl ?_ | refine WL.assign _ rfl (by decide) rfl ?_ | refine WL.bin _ _ _ rfl (by decide) rfl rfl (fun _ => rfl) ?_ | refine WL.nilc _ rfl (by decide) rfl ?_ | refine WL.fd101_1 rfl (by decide) rfl ?_ | refine WL.ln22 rfl (by decide) rfl ?_ | refine WL.ld40 0 rfl (by decide) rfl rfl rfl ?_)
        exact QE.ret3 (.slice A2 ms.length c2) (.int .i64 ms.length) (.int .i64 0) (emsH A2 c2 ms) rfl rfl rfl rfl (.cons _ (.refl _)) ⟨A2, c2, ms, by rw [e1, d1, d2]; simp [es], by rw [e1, d1, d2]; rfl, rfl, hsm, by omega⟩
    · have d2 : endE (evG b).2 = 7 := d2
      repeat (first | refine WC.seq ?_ | refine WC.region ?_ | refine WC.skip ?_ | refine WL.nil ?_ | with_reducible refine QE.then_n ?_ | refine WC.cond_t rfl ?_ | refine WC.cond_f rfl ?_ | refine WL.move _ rfl (by decide) rfl ?_ | refine WL.bin _ _ _ rfl (by decide) rfl rfl (fun _ => rfl) ?_ | refine WL.nilc _ rfl (by decide) rfl ?_ | refine WL.off rfl (by decide) ?_ | refine WL.pick _ _ rfl (by decide) rfl rfl ?_ | refine WL.fd101_1 rfl (by decide) rfl ?_ | refine WL.ld40 0 rfl (by decide) rfl rfl rfl ?_)
      refine WC.draw 9 #[false, false, false, false, false, false, false, false, false] [.blk tg [.slice B2 (b.length - wk2) (c - wk2), .int .i64 7] 101] [] (by kernel_rfl) rfl rfl (by repeat (first | exact List.Sublist.refl _ | exact List.nil_sublist _ | refine List.Sublist.cons_cons _ ?_ | refine List.Sublist.cons _ ?_)) ?_
      refine WA.move 0 #[true, false, false, false, false, false, false, false, false] _ rfl rfl rfl (by decide) (by kernel_rfl) (by repeat (first | with_reducible refine Qp.then ?_ | with_reducible refine Qp.blk ?_ | with_reducible exact Qp.body)) ?_
      refine WA.len 1 #[true, true, false, false, false, false, false, false, false] _ _ _ _ Try.underlying22 rfl rfl rfl (by decide) (by kernel_rfl) (by repeat (first | with_reducible refine Qp.then ?_ | with_reducible refine Qp.blk ?_ | with_reducible exact Qp.body)) ?_
      refine WA.move 2 #[true, true, true, false, false, false, false, false, false] _ rfl rfl rfl (by decide) (by kernel_rfl) (by repeat (first | with_reducible refine Qp.then ?_ | with_reducible refine Qp.blk ?_ | with_reducible exact Qp.body)) ?_
      refine WA.nilc 3 #[true, true, true, true, false, false, false, false, false] _ rfl rfl rfl (by decide) (by kernel_rfl) (by repeat (first | with_reducible refine Qp.then ?_ | with_reducible refine Qp.blk ?_ | with_reducible exact Qp.body)) ?_
      refine WA.faddr 4 #[true, true, true, true, true, false, false, false, false] _ _ rfl (fa101_1 _ _) rfl rfl (by decide) (by kernel_rfl) (by repeat (first | with_reducible refine Qp.then ?_ | with_reducible refine Qp.blk ?_ | with_reducible exact Qp.body)) ?_
      refine WA.load 5 #[true, true, true, true, true, true, false, false, false] 0 _ _ _ _ _ rfl rfl (by decide) (by repeat (first | exact List.Sublist.refl _ | exact List.nil_sublist _ | refine List.Sublist.cons_cons _ ?_ | refine List.Sublist.cons _ ?_)) (by kernel_rfl) (by repeat (first | with_reducible refine Qp.then ?_ | with_reducible refine Qp.blk ?_ | with_reducible exact Qp.body)) rfl agg40 rfl rfl ?_
      refine WA.assign 6 #[true, true, true, true, true, true, true, false, false] _ rfl rfl rfl (by decide) (by kernel_rfl) (by repeat (first | with_reducible refine Qp.then ?_ | with_reducible refine Qp.blk ?_ | with_reducible exact Qp.body)) ?_
      refine WA.assign 7 #[true, true, true, true, true, true, true, true, false] _ rfl rfl rfl (by decide) (by kernel_rfl) (by repeat (first | with_reducible refine Qp.then ?_ | with_reducible refine Qp.blk ?_ | with_reducible exact Qp.body)) ?_
      refine WA.assign 8 #[true, true, true, true, true, true, true, true, true] _ rfl rfl rfl (by decide) (by kernel_rfl) (by repeat (first | with_reducible refine Qp.then ?_ | with_reducible refine Qp.blk ?_ | with_reducible exact Qp.body)) ?_
      refine WA.done (by kernel_rfl) ?_
      repeat (first | refine WC.ret ?_ | with_reducible refine QE.then_r ?_)
      refine QE.nilrow 37 29 ?_
      exact QE.ret3 (.slice none 0 0) (.int .i64 ms.length) (.int .i64 7) [_] rfl rfl rfl rfl (.cons_cons _ (List.nil_sublist _)) ⟨none, 0, [], by rw [e1, d1, d2]; simp [es], by rw [e1, d2]; simp [es], rfl, (fun _ h => by cases h), Nat.zero_le _⟩
    · have d2 : endE (evG b).2 = 361 := d2
      repeat (first | refine WC.seq ?_ | refine WC.region ?_ | refine WC.skip ?_ | refine WL.nil ?_ | with_reducible refine QE.then_n ?_ | refine WC.cond_t rfl ?_ | refine WC.cond_f rfl ?_ | refine WL.move _ rfl (by decide) rfl ?_ | refine WL.bin _ _ _ rfl (by decide) rfl rfl (fun _ => rfl) ?_ | refine WL.nilc _ rfl (by decide) rfl ?_ | refine WL.off rfl (by decide) ?_ | refine WL.pick _ _ rfl (by decide) rfl rfl ?_ | refine WL.fd101_1 rfl (by decide) rfl ?_ | refine WL.ld40 0 rfl (by decide) rfl rfl rfl ?_)
      refine WC.draw 9 #[false, false, false, false, false, false, false, false, false] [.blk tg [.slice B2 (b.length - wk2) (c - wk2), .int .i64 361] 101] [] (by kernel_rfl) rfl rfl (by repeat (first | exact List.Sublist.refl _ | exact List.nil_sublist _ | refine List.Sublist.cons_cons _ ?_ | refine List.Sublist.cons _ ?_)) ?_
      refine WA.move 0 #[true, false, false, false, false, false, false, false, false] _ rfl rfl rfl (by decide) (by kernel_rfl) (by repeat (first | with_reducible refine Qp.then ?_ | with_reducible refine Qp.blk ?_ | with_reducible exact Qp.body)) ?_
      refine WA.len 1 #[true, true, false, false, false, false, false, false, false] _ _ _ _ Try.underlying22 rfl rfl rfl (by decide) (by kernel_rfl) (by repeat (first | with_reducible refine Qp.then ?_ | with_reducible refine Qp.blk ?_ | with_reducible exact Qp.body)) ?_
      refine WA.move 2 #[true, true, true, false, false, false, false, false, false] _ rfl rfl rfl (by decide) (by kernel_rfl) (by repeat (first | with_reducible refine Qp.then ?_ | with_reducible refine Qp.blk ?_ | with_reducible exact Qp.body)) ?_
      refine WA.nilc 3 #[true, true, true, true, false, false, false, false, false] _ rfl rfl rfl (by decide) (by kernel_rfl) (by repeat (first | with_reducible refine Qp.then ?_ | with_reducible refine Qp.blk ?_ | with_reducible exact Qp.body)) ?_
      refine WA.faddr 4 #[true, true, true, true, true, false, false, false, false] _ _ rfl (fa101_1 _ _) rfl rfl (by decide) (by kernel_rfl) (by repeat (first | with_reducible refine Qp.then ?_ | with_reducible refine Qp.blk ?_ | with_reducible exact Qp.body)) ?_
      refine WA.load 5 #[true, true, true, true, true, true, false, false, false] 0 _ _ _ _ _ rfl rfl (by decide) (by repeat (first | exact List.Sublist.refl _ | exact List.nil_sublist _ | refine List.Sublist.cons_cons _ ?_ | refine List.Sublist.cons _ ?_)) (by kernel_rfl) (by repeat (first | with_reducible refine Qp.then ?_ | with_reducible refine Qp.blk ?_ | with_reducible exact Qp.body)) rfl agg40 rfl rfl ?_
      refine WA.assign 6 #[true, true, true, true, true, true, true, false, false] _ rfl rfl rfl (by decide) (by kernel_rfl) (by repeat (first | with_reducible refine Qp.then ?_ | with_reducible refine Qp.blk ?_ | with_reducible exact Qp.body)) ?_
      refine WA.assign 7 #[true, true, true, true, true, true, true, true, false] _ rfl rfl rfl (by decide) (by kernel_rfl) (by repeat (first | with_reducible refine Qp.then ?_ | with_reducible refine Qp.blk ?_ | with_reducible exact Qp.body)) ?_
      refine WA.assign 8 #[true, true, true, true, true, true, true, true, true] _ rfl rfl rfl (by decide) (by kernel_rfl) (by repeat (first | with_reducible refine Qp.then ?_ | with_reducible refine Qp.blk ?_ | with_reducible exact Qp.body)) ?_
      refine WA.done (by kernel_rfl) ?_
      repeat (first | refine WC.ret ?_ | with_reducible refine QE.then_r ?_)
      refine QE.nilrow 37 29 ?_
      exact QE.ret3 (.slice none 0 0) (.int .i64 ms.length) (.int .i64 361) [_] rfl rfl rfl rfl (.cons_cons _ (List.nil_sublist _)) ⟨none, 0, [], by rw [e1, d1, d2]; simp [es], by rw [e1, d2]; simp [es], rfl, (fun _ h => by cases h), Nat.zero_le _⟩
  · repeat (refine WC.block ?_)
    refine WC.loop (σ := List Em × Option Addr × Nat × Option Addr × Nat × Int) (fun x => [(7, .slice x.2.1 x.1.length x.2.2.1), (6, .int .i64 n), (5, .pointer (some ⟨tg, 0, none⟩))]) (fun x => tkH tg x.2.2.2.1 c b.length x.2.2.2.2.1 x.2.2.2.2.2 ++ emsH x.2.1 x.2.2.1 x.1) (fun x => EL b (evG b) n x.1 x.2.2.2.2.1 (e0 x.2.2.2.2.2) (x.2.2.2.2.2 == 361) ∧ ErO x.2.2.2.2.2 ∧ At A b.length x.2.2.2.2.1 x.2.2.2.1) (fun x => 2 * (n - x.1.length) + (if x.2.2.2.2.2 = 0 then 1 else 0))
      ([], none, 0, B1, wk, er) ⟨hEL0, hErO, ha1⟩ (.cons rfl (.cons rfl (.cons rfl .nil))) (.refl _) ?_
    rintro ⟨ms, A2, c2, B2, wk2, er2⟩ ⟨hel, hO, hat⟩
    dsimp only at hel hO hat ⊢
    have hmle := hel.le
    have hwk2 := hel.kw
    unfold tkH emsH
    simp only [List.cons_append, List.nil_append]
    repeat (first | refine WC.seq ?_ | refine WC.region ?_ | refine WL.move _ rfl (by decide) rfl ?_ | refine WL.bin _ _ _ rfl (by decide) rfl rfl (fun _ => rfl) ?_ | refine WL.ln22 rfl (by decide) rfl ?_)
    refine WL.split 24 _ rfl (fun hlt => ?_) (fun hlt => ?_)
    rotate_left
    · have hlt : ¬ (ms.length : Int) < n := of_decide_eq_false hlt
      repeat (first | refine WC.exit ?_ | refine WL.nil ?_ | with_reducible refine QE.then_n ?_ | with_reducible refine QE.then_e ?_ | with_reducible refine QE.blk_hit ?_ | refine WC.cond_f rfl ?_ | refine WL.off rfl (by decide) ?_ | refine WL.pick _ _ rfl (by decide) rfl rfl ?_)
      exact QE.cut (ms, A2, c2, B2, wk2, er2) ⟨hel, hO, .inl (by show ms.length = n; omega)⟩ (.cons rfl (.cons rfl .nil)) (.refl _)
    have hlt : (ms.length : Int) < n := of_decide_eq_true hlt
    repeat (first | refine WL.nil ?_ | with_reducible refine QE.then_n ?_ | refine WL.move _ rfl (by decide) rfl ?_ | refine WL.bin _ _ _ rfl (by decide) rfl rfl (fun _ => rfl) ?_ | refine WL.nilc _ rfl (by decide) rfl ?_ | refine WL.pick _ _ rfl (by decide) rfl rfl ?_ | refine WL.fd101_1 rfl (by decide) rfl ?_ | refine WL.ld40 0 rfl (by decide) rfl rfl rfl ?_)
    refine WC.cond _ rfl (fun he => ?_) (fun he => ?_)
    rotate_left
    · have he : er2 ≠ 0 := by simpa using he
      repeat (first | refine WC.exit ?_ | with_reducible refine QE.then_e ?_ | with_reducible refine QE.blk_hit ?_)
      exact QE.cut (ms, A2, c2, B2, wk2, er2) ⟨hel, hO, .inr he⟩ (.cons rfl (.cons rfl .nil)) (.refl _)
    have he : er2 = 0 := by simpa using he
    subst he
    repeat (first | refine WC.seq ?_ | refine WC.region ?_ | refine WC.block ?_ | refine WC.skip ?_ | refine WL.move _ rfl (by decide) rfl ?_)
    refine WL.call [] [] [pt tg] _ (tkH tg B2 c b.length wk2 0) (.row (.slice A2 ms.length c2) 37 29 ms.length (emsC ms) :: emsR ms) (act_con tg A B2 c b wk2 0 hb hc hn hwk2 hat) rfl (by decide) rfl Try.func62 rfl rfl rfl rfl (.refl _) (fun w hI => hread hI (fun q hq => List.mem_append_left _ hq)) ?_
    rintro v H1 ⟨B3, A6, c6, A27, c27, wk3, er3, e, hact, rfl, rfl, ha3, hk3, hx6, hx27⟩
    have hrd := act_rd hb hwk2 hact
    have her := act_er (l := b) (wk := wk2) (er := 0) (.inl rfl)
    rw [hact] at her
    obtain ⟨m, hm⟩ : ∃ m : Em, m = ⟨e, A6, c6, A27, c27⟩ := ⟨_, rfl⟩
    have hst := hel.step (m := m) (wk' := wk3) (er' := e0 er3) (bad' := (er3 == 361)) (by omega) (by subst hm; exact ⟨hx6, hx27⟩) hrd.2 (by rcases her with rfl | rfl | rfl; exact .inl rfl; exact .inr rfl; exact .inl rfl) (by subst hm; rw [resOf_T her]; exact hrd.1)
    have hev : evV e A6 c6 A27 c27 = .agg (emC m).toArray := by subst hm; rfl
    have hrw : rows e A6 c6 A27 c27 = emR m := by subst hm; rfl
    rw [hev, hrw]
    unfold tkH emR
    simp only [List.cons_append, List.nil_append]
    refine WL.alloc zeroA (evC zeroEv.n (.slice none 0 0) (.slice none 0 0)) rfl (by decide) zero37 rfl (fun g8 => ?_)
    repeat (first | refine WC.seq ?_ | refine WC.region ?_ | refine WL.nil ?_ | with_reducible refine QE.then_n ?_ | refine WL.move _ rfl (by decide) rfl ?_ | refine WL.bin _ _ _ rfl (by decide) rfl rfl (fun _ => rfl) ?_ | refine WL.nilc _ rfl (by decide) rfl ?_ | refine WL.fd101_1 rfl (by decide) rfl ?_ | refine WL.ld40 1 rfl (by decide) rfl rfl rfl ?_ | refine WL.st37 0 rfl rfl rfl rfl rfl rfl rfl rfl rfl ?_)
    rcases hst with ⟨hb3, h03, hst⟩ | ⟨hbe, hst⟩
    · have h3 : er3 = 0 := by
        rcases her with rfl | rfl | rfl
        · rfl
        · exact absurd h03 (by decide)
        · exact absurd hb3 (by decide)
      subst h3
      repeat (first | refine WC.region ?_ | refine WC.cond_t rfl ?_ | refine WL.move _ rfl (by decide) rfl ?_ | refine WL.ld37 0 rfl (by decide) rfl rfl rfl rfl ?_)
      refine WL.buildS 1 37 29 [(0, .agg (emC m).toArray)] (emC m) rfl (by decide) rfl rfl rfl (fun w => by kernel_rfl) (fun gb => ?_)
      refine WL.append 5 37 29 248 ms.length 1 1 zeroA _ _ (emsC ms) (emC m) rfl (by decide) rfl rfl Try.underlying22 info37 rfl (by decide) rfl (fun w hI => row_reads hI (i := 0) rfl) (emC_one m) (by omega) (by omega) (fun A3 c3 => ?_)
      repeat (first | refine WL.nil ?_ | with_reducible refine QE.blk_n ?_ | refine WL.assign _ rfl (by decide) rfl ?_)
      refine QE.sub _ (.cons _ (.cons _ (.refl _))) ?_
      refine QE.perm _ (permT _ _ _ _ _) ?_
      refine QE.round (ms ++ [m], A3, c3, B3, wk3, 0) ⟨hst, .inl rfl, ha3⟩ (by dsimp only; simp only [List.length_append, List.length_cons, List.length_nil, if_true]; omega) (.eq rfl (by simp) (.cons rfl (.cons rfl .nil))) ?_
      dsimp only
      rw [List.length_append, show emsC (ms ++ [m]) = emsC ms ++ emC m by simp [emsC], show emsR (ms ++ [m]) = emsR ms ++ emR m by simp [emsR]]
      exact .refl _
    · have h3 : er3 ≠ 0 := by
        rintro rfl
        rcases hbe with h | h <;> exact absurd h (by decide)
      refine WC.cond_f (by show some (Value.bool _) = _; simp [h3]) ?_
      repeat (first | refine WC.skip ?_ | with_reducible refine QE.blk_n ?_)
      refine QE.sub _ (.cons _ (.cons_cons _ (.cons _ (.cons _ (.refl _))))) ?_
      exact QE.round (ms, A2, c2, B3, wk3, er3) ⟨hst, her, ha3⟩ (by dsimp only; rw [if_neg h3]; simp) (.cons rfl (.cons rfl (.cons rfl .nil))) (.refl _)
end Go.Proofs.Ytalafklnnohlgaa.Cod
