/- code's Row: a row's bytes. Condition: the events can be read. -/
import Derived.Test.YtalafklnnohlgaaCod15
import Derived.Test.YtalafklnnohlgaaPur3
namespace Go.Proofs.Ytalafklnnohlgaa.Cod
open Go.RowKit X Go.Proofs.YtalafklnnohlgaaW.PrintLast
open Oct hiding agg39 size39
set_option linter.unusedVariables false
set_option linter.unusedSimpArgs false

/-- An event in memory: with where its lists stand. -/
structure Em where
  e : Ev
  A6 : Option Addr
  c6 : Nat
  A27 : Option Addr
  c27 : Nat
def Em.st (m : Em) : Value := .slice m.A6 m.e.nums.length m.c6
def Em.tt (m : Em) : Value := .slice m.A27 m.e.mem.length m.c27
def emC (m : Em) : List Value := evC m.e.n m.st m.tt
def emsC (ms : List Em) : List Value := ms.flatMap emC
def emR (m : Em) : List Ck := [.row m.st 3 1 m.e.nums.length (i64s m.e.nums), .row m.tt 3 1 m.e.mem.length (i64s m.e.mem)]
def EmOk (w : World) (m : Em) : Prop := EvOk w m.e m.A6 m.A27
def emMax (m : Em) : Prop := m.e.nums.length ≤ maxLen ∧ m.e.mem.length ≤ maxLen
def EmsOk (w : World) (A : Option Addr) (ms : List Em) : Prop := Rds w A ms.length 29 (emsC ms) ∧ ∀ m ∈ ms, EmOk w m
theorem EmsOk.kept {E : Env} {w : World} {A : Option Addr} {ms : List Em} (h : EmsOk E.w0 A ms) (hk : Kept E w) (hF : E.F = fps []) : EmsOk w A ms := ⟨Oct.kept0 h.1 hk hF, fun m hm => (h.2 m hm).kept hk hF⟩
theorem info37 : (Try.prog.info? 37).map (fun i => (i.zero, i.size, i.bytes)) = some (some zeroA, 29, 248) := by kernel_rfl
theorem emC_len (m : Em) : (emC m).length = 29 := rfl
theorem emC_one (m : Em) : ∀ u ∈ emC m, u.oneCell' = true := by
  intro u hu
  simp only [emC, evC, Em.st, Em.tt, List.mem_cons, List.not_mem_nil, or_false] at hu
  rcases hu with rfl | rfl | rfl | rfl | rfl | rfl | rfl | rfl | rfl | rfl | rfl | rfl | rfl | rfl | rfl | rfl | rfl | rfl | rfl | rfl | rfl | rfl | rfl | rfl | rfl | rfl | rfl | rfl | rfl <;> rfl
theorem ems_at : ∀ (ms : List Em) (i : Nat) (m : Em), ms[i]? = some m → ∀ j u, (emC m)[j]? = some u → (emsC ms)[i * 29 + j]? = some u
  | [], i, m, h, _, _, _ => by simp at h
  | q :: ms, 0, m, h, j, u, hj => by
    simp at h; subst h
    simp only [emsC, List.flatMap_cons, Nat.zero_mul, Nat.zero_add]
    rw [List.getElem?_append_left (List.getElem?_eq_some_iff.1 hj).1]; exact hj
  | q :: ms, i + 1, m, h, j, u, hj => by
    have ih := ems_at ms i m (by simpa using h) j u hj
    simp only [emsC, List.flatMap_cons] at ih ⊢
    rw [List.getElem?_append_right (by rw [emC_len, Nat.add_mul]; omega), emC_len, show (i + 1) * 29 + j - 29 = i * 29 + j by rw [Nat.add_mul]; omega]
    exact ih
/-- A row's bytes, from event i on behind others; the place of the first that may not be; the error. -/
def rowGo : List Ev → Nat → List Int → List Int × Int × Int
  | [], i, out => (out, 0, 0)
  | e :: l, i, out => match encP e with | some y => rowGo l (i + 1) (out ++ y) | none => ([], i, 360)
def rowP (l : List Ev) : List Int × Int × Int := if 2000 < l.length then ([], 0, 3) else rowGo l 0 (beB 2 l.length)
def es (ms : List Em) : List Ev := ms.map (·.e)

set_option maxHeartbeats 4000000 in
set_option maxRecDepth 100000 in
theorem row_con (A : Option Addr) (c : Nat) (ms : List Em) (hn : ms.length ≤ maxLen) (hm : ∀ m ∈ ms, emMax m) :
    Con Try.prog 17 #[.slice A ms.length c] [] (fun w => EmsOk w A ms) (fun v H' => ∃ A' c', v = .tuple #[.slice A' (rowP (es ms)).1.length c', .int .i64 (rowP (es ms)).2.1, .int .i64 (rowP (es ms)).2.2] ∧ H' = [.row (.slice A' (rowP (es ms)).1.length c') 5 1 (rowP (es ms)).1.length (b8 (rowP (es ms)).1)] ∧ (rowP (es ms)).1.length ≤ 2 + 400 * 2000 ∧ Byt (rowP (es ms)).1) := by
  simp only [maxLen] at hn
  refine Con.intro Try.func17 rfl Try.ntmps17 rfl (fun w hR => ?_)
  have hel : (es ms).length = ms.length := by simp [es]
  repeat (first | refine WC.seq ?_ | refine WC.region ?_ | refine WL.nil ?_ | with_reducible refine QE.then_n ?_ | refine WL.move _ rfl (by decide) rfl ?_ | refine WL.assign _ rfl (by decide) rfl ?_ | refine WL.bin _ _ _ rfl (by decide) rfl rfl (fun _ => rfl) ?_ | refine WL.ln22 rfl (by decide) rfl ?_)
  refine WC.cond _ rfl (fun hb => ?_) (fun hb => ?_)
  · have hb : (ms.length : Int) > 2000 := of_decide_eq_true hb
    repeat (first | refine WC.seq ?_ | refine WC.region ?_ | refine WC.ret ?_ | with_reducible refine QE.then_r ?_ | refine WL.assign _ rfl (by decide) rfl ?_)
    have e1 : rowP (es ms) = ([], 0, 3) := by unfold rowP; rw [if_pos (by rw [hel]; omega)]
    refine QE.nilrow 5 1 ?_
    exact QE.ret3 (.slice none 0 0) (.int .i64 0) (.int .i64 3) [_] rfl rfl rfl rfl (.cons_cons _ (List.nil_sublist _)) ⟨none, 0, by rw [e1]; rfl, by rw [e1]; rfl, by rw [e1]; exact Nat.zero_le _, by rw [e1]; exact fun u hu => by cases hu⟩
  have hb : ¬ (ms.length : Int) > 2000 := of_decide_eq_false hb
  have hle : ms.length ≤ 2000 := by omega
  have e1 : rowP (es ms) = rowGo (es ms) 0 (beB 2 ms.length) := by unfold rowP; rw [if_neg (by rw [hel]; omega), hel]
  rw [e1]
  repeat (first | refine WC.seq ?_ | refine WC.region ?_ | refine WC.skip ?_ | refine WL.move _ rfl (by decide) rfl ?_ | refine WL.cv3_55 rfl (by decide) rfl ?_ | refine WL.ln22 rfl (by decide) rfl ?_)
  refine WL.know (.int .u16 ms.length) (s := 15) rfl (congrArg _ (by rw [wr_u16]; omega)) ?_
  refine WL.call [] [] [.slice none 0 0, .int .u16 ms.length] _ [] _ (Put2 none 0 [] ms.length (by decide) (by omega)) rfl (by decide) rfl Try.func26 rfl rfl rfl rfl (.refl _) (fun w hI => ⟨rfl, (fun _ => rfl), (fun _ h => by cases h)⟩) ?_
  rintro v H1 ⟨A1, c1, rfl, rfl⟩
  rw [List.nil_append]
  repeat (first | refine WC.seq ?_ | refine WC.region ?_ | refine WC.block ?_ | refine WL.move _ rfl (by decide) rfl ?_ | refine WL.assign _ rfl (by decide) rfl ?_ | refine WL.ln22 rfl (by decide) rfl ?_)
  refine WC.loop (σ := Nat × Option Addr × Nat × List Int) (fun x => [(19, .int .i64 x.1), (18, .int .i64 ms.length), (17, .slice A ms.length c), (5, .slice x.2.1 x.2.2.2.length x.2.2.1)])
    (fun x => [.row (.slice x.2.1 x.2.2.2.length x.2.2.1) 5 1 x.2.2.2.length (b8 x.2.2.2)])
    (fun x => x.1 ≤ ms.length ∧ x.2.2.2.length ≤ 2 + 400 * x.1 ∧ Byt x.2.2.2 ∧ rowGo ((es ms).drop x.1) x.1 x.2.2.2 = rowGo (es ms) 0 (beB 2 ms.length)) (fun x => ms.length - x.1)
    (0, A1, c1, beB 2 ms.length) ⟨Nat.zero_le _, by simp [beB_len], byt_beB 2 _, rfl⟩ (.cons rfl (.cons rfl (.cons rfl (.cons rfl .nil)))) (.refl _) ?_
  rintro ⟨i, A2, c2, out⟩ ⟨g1, g2, g3, g4⟩
  dsimp only at g1 g2 g3 g4 ⊢
  repeat (first | refine WC.seq ?_ | refine WC.region ?_ | refine WL.bin _ _ _ rfl (by decide) rfl rfl (fun _ => rfl) ?_)
  refine WC.cond _ rfl (fun hb2 => ?_) (fun hb2 => ?_)
  · have hb2 : (i : Int) < ms.length := of_decide_eq_true hb2
    obtain ⟨m, hmi⟩ : ∃ m, ms[i]? = some m := ⟨_, List.getElem?_eq_getElem (by omega)⟩
    have hmm := List.mem_of_getElem? hmi
    have hei : (es ms)[i]? = some m.e := by simp [es, hmi]
    have hdr : (es ms).drop i = m.e :: (es ms).drop (i + 1) := by
      rw [List.drop_eq_getElem_cons (by rw [hel]; omega), (List.getElem?_eq_some_iff.1 hei).2]
    rw [hdr] at g4
    repeat (first | refine WC.seq ?_ | refine WC.region ?_ | refine WC.block ?_ | refine WC.skip ?_ | refine WL.move _ rfl (by decide) rfl ?_)
    refine WL.idx 37 29 ms.length c .i64 A (i : Int) rfl (by decide) rfl rfl Try.underlying22 size37 (by omega) hb2 (fun w hI => hR.1.nil) (fun ad had => ?_)
    refine WL.loadN (ad.add ((i : Int).toNat * 29)) 29 (emC m) rfl (by decide) rfl agg37 size37 rfl (fun w hI q u hq => by rw [add_add']; exact (hR.kept hI.kp rfl).1.at_ ad had _ _ (ems_at ms i m hmi q u hq)) ?_
    refine WL.alloc zeroA (evC zeroEv.n (.slice none 0 0) (.slice none 0 0)) rfl (by decide) zero37 rfl (fun g7 => ?_)
    repeat (first | refine WC.seq ?_ | refine WC.region ?_ | refine WL.assign _ rfl (by decide) rfl ?_ | refine WL.ld37 0 rfl (by decide) rfl rfl rfl rfl ?_ | refine WL.st37 0 rfl rfl rfl rfl rfl rfl rfl rfl rfl ?_)
    refine WL.call [] [] [evV m.e m.A6 m.c6 m.A27 m.c27] _ [] _ (encode_con m.e m.A6 m.A27 m.c6 m.c27 (hm m hmm)) rfl (by decide) rfl Try.func23 rfl rfl rfl rfl (.refl _) (fun w hI => (hR.kept hI.kp rfl).2 m hmm) ?_
    rintro v H1 ⟨P1, p1, rfl, rfl, hlp⟩
    simp only [List.cons_append, List.nil_append]
    cases hp : encP m.e with
    | none =>
      rw [(encB_none hp).1, (encB_none hp).2]
      have e2 : rowGo (es ms) 0 (beB 2 ms.length) = ([], (i : Int), 360) := by rw [← g4]; simp only [rowGo, hp]
      repeat (first | refine WC.seq ?_ | refine WC.region ?_ | refine WC.ret ?_ | refine WL.nil ?_ | with_reducible refine QE.then_n ?_ | with_reducible refine QE.then_r ?_ | with_reducible refine QE.blk_r ?_ | refine WC.cond_t rfl ?_ | refine WL.move _ rfl (by decide) rfl ?_ | refine WL.assign _ rfl (by decide) rfl ?_ | refine WL.bin _ _ _ rfl (by decide) rfl rfl (fun _ => rfl) ?_ | refine WL.extract _ _ rfl (by decide) rfl (fun _ => rfl) ?_)
      refine QE.nilrow 5 1 ?_
      exact QE.ret3 (.slice none 0 0) (.int .i64 i) (.int .i64 360) [_] rfl rfl rfl rfl (.cons_cons _ (List.nil_sublist _)) ⟨none, 0, by rw [e2]; rfl, by rw [e2]; rfl, by rw [e2]; exact Nat.zero_le _, by rw [e2]; exact fun u hu => by cases hu⟩
    | some y =>
      rw [(encB_of hp).1] at hlp
      rw [(encB_of hp).1, (encB_of hp).2]
      have hby : Byt y := by have := byt_encB m.e; rwa [(encB_of hp).1] at this
      repeat (first | refine WC.seq ?_ | refine WC.region ?_ | refine WC.skip ?_ | refine WL.nil ?_ | with_reducible refine QE.then_n ?_ | refine WC.cond_f rfl ?_ | refine WL.move _ rfl (by decide) rfl ?_ | refine WL.assign _ rfl (by decide) rfl ?_ | refine WL.bin _ _ _ rfl (by decide) rfl rfl (fun _ => rfl) ?_ | refine WL.extract _ _ rfl (by decide) rfl (fun _ => rfl) ?_)
      refine WL.fact (y.length ≤ p1) (fun w hI => (row_reads hI (i := 0) rfl).1) (fun hyc => ?_)
      refine WL.append 2 5 1 1 out.length y.length p1 (.int .u8 0) _ P1 (b8 out) (b8 y) rfl (by decide) rfl rfl Try.underlying39 info5 rfl (by decide) rfl (fun w hI => ⟨hyc, (row_reads hI (i := 0) rfl).2⟩) (b8_one y) (by omega) (by omega) (fun A3 c3 => ?_)
      repeat (first | refine WC.region ?_ | refine WL.nil ?_ | refine WL.move _ rfl (by decide) rfl ?_ | refine WL.assign _ rfl (by decide) rfl ?_ | refine WL.bin _ _ _ rfl (by decide) rfl rfl (fun _ => rfl) ?_)
      refine QE.round (i + 1, A3, c3, out ++ y) ⟨by dsimp only; omega, by simp; omega, ?_, ?_⟩ (by dsimp only; omega) (.eq rfl (by congr 1; rw [wr_i64 (by omega) (by omega)]; simp) (.cons rfl (.cons rfl (.eq rfl (by simp) .nil)))) ?_
      · intro u hu
        rcases List.mem_append.1 hu with hu | hu
        · exact g3 u hu
        · exact hby u hu
      · rw [← g4]; simp only [rowGo, hp]
      · dsimp only
        rw [List.length_append, show b8 (out ++ y) = b8 out ++ b8 y by simp [b8]]
        exact .cons _ (.cons _ (.refl _))
  · have hb2 : ¬ (i : Int) < ms.length := of_decide_eq_false hb2
    have hnil : (es ms).drop i = [] := List.drop_eq_nil_of_le (by rw [hel]; omega)
    rw [hnil] at g4
    have e2 : rowGo (es ms) 0 (beB 2 ms.length) = (out, 0, 0) := by rw [← g4]; rfl
    rw [e2]
    repeat (first | refine WC.seq ?_ | refine WC.region ?_ | refine WC.exit ?_ | refine WC.ret ?_ | refine WL.move _ rfl (by decide) rfl ?_ | refine WL.assign _ rfl (by decide) rfl ?_)
    exact QE.ret3 (.slice A2 out.length c2) (.int .i64 0) (.int .i64 0) [_] rfl rfl rfl rfl (.refl _) ⟨A2, c2, rfl, rfl, by dsimp only; omega, g3⟩
end Go.Proofs.Ytalafklnnohlgaa.Cod
