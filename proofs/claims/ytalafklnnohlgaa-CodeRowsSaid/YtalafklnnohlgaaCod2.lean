/- code's carrier: small numbers, one behind the other; events as numbers, what their bytes are and what is read out of bytes. Conditions: the bytes so far leave room. -/
import Derived.Test.YtalafklnnohlgaaCod1
namespace Go.Proofs.Ytalafklnnohlgaa.Cod
open Go.RowKit X Go.Proofs.YtalafklnnohlgaaW.PrintLast
open Oct hiding agg39 size39
set_option linter.unusedVariables false
set_option linter.unusedSimpArgs false

theorem one89 (s : Cs) (cg g tb j W : Nat) (hW : W = 1 ∨ W = 2 ∨ W = 4 ∨ W = 8) (cs : List Value) (v : Int) (hj : cs[j]? = some (.int .i64 v)) (hr : room 8 s) :
    Con Try.prog 89 #[pt cg, .int .i64 W, .pointer (some ⟨g, j, none⟩)] (carH cg s ++ [.blk g cs tb]) (fun _ => True) (oneC cg g tb W .i64 s cs j v) := by
  cases s with
  | w A c out bad => exact one89_w A c out bad cg g tb j W hW cs v hj hr
  | r rg A c l wk er bad => exact one89_r rg A c l wk er bad cg g tb j W hW cs v hj hr
theorem one83 (s : Cs) (cg g tb j W : Nat) (hW : W = 1 ∨ W = 2 ∨ W = 4 ∨ W = 8) (cs : List Value) (v : Int) (hj : cs[j]? = some (.int .i64 v)) (hr : room 8 s) :
    Con Try.prog 83 #[pt cg, .int .i64 W, .pointer (some ⟨g, j, none⟩)] (carH cg s ++ [.blk g cs tb]) (fun _ => True) (oneC cg g tb W .i64 s cs j v) := by
  cases s with
  | w A c out bad => exact one83_w A c out bad cg g tb j W hW cs v hj hr
  | r rg A c l wk er bad => exact one83_r rg A c l wk er bad cg g tb j W hW cs v hj hr
theorem one102 (s : Cs) (cg g tb j W : Nat) (hW : W = 1 ∨ W = 2 ∨ W = 4 ∨ W = 8) (cs : List Value) (v : Int) (hj : cs[j]? = some (.int .u32 v)) (hr : room 8 s) :
    Con Try.prog 102 #[pt cg, .int .i64 W, .pointer (some ⟨g, j, none⟩)] (carH cg s ++ [.blk g cs tb]) (fun _ => True) (oneC cg g tb W .u32 s cs j v) := by
  cases s with
  | w A c out bad => exact one102_w A c out bad cg g tb j W hW cs v hj hr
  | r rg A c l wk er bad => exact one102_r rg A c l wk er bad cg g tb j W hW cs v hj hr
theorem room_le {n k : Nat} {s : Cs} (h : room n s) (hk : k ≤ n) : room k s := by
  cases s with
  | w A c out bad => exact Nat.le_trans (Nat.add_le_add_left hk _) h
  | r rg A c l wk er bad => exact h
theorem er_cases (len wk : Nat) (er : Int) (W : Nat) (he : er = 0 ∨ er = 7) : erR len wk er W = 0 ∨ erR len wk er W = 7 := by
  unfold erR
  rcases he with rfl | rfl
  · rw [if_neg (by decide), if_neg (by omega)]
    split
    · exact .inr rfl
    · exact .inl rfl
  · rw [if_pos (by decide)]; exact .inr rfl
theorem room_one {W n : Nat} {k : IntKind} {s s' : Cs} {v v' : Int} (hW : W ≤ 8) (h : OneV W k s v s' v') (hr : room (n + 8) s) : room n s' := by
  cases s with
  | w A c out bad =>
    obtain ⟨_, A', c', rfl⟩ := h
    have hr : out.length + (n + 8) ≤ 140737488355328 := hr
    show (out ++ beB W _).length + n ≤ _
    rw [List.length_append, beB_len]; omega
  | r rg A c l wk er bad =>
    obtain ⟨rfl, _⟩ := h
    obtain ⟨h1, h2, h3, h4⟩ := hr
    exact ⟨wkR_le h1, h2, h3, er_cases _ _ _ _ h4⟩

inductive SmallP : List Nat → Cs → List Value → Cs → List Value → Prop
  | nil {s : Cs} {cs : List Value} : SmallP [] s cs s cs
  | cons {j : Nat} {js : List Nat} {s s1 s2 : Cs} {cs cs2 : List Value} {v v1 : Int} : cs[j]? = some (.int .i64 v) → OneV 1 .i64 s v s1 v1 → SmallP js s1 (cs.set j (.int .i64 v1)) s2 cs2 → SmallP (j :: js) s cs s2 cs2
theorem permA {b r : Ck} (X : List Ck) : ((X ++ [b]) ++ [r]).Perm (r :: b :: X) := ((X ++ [b]).perm_append_comm (l₂ := [r])).trans (.cons _ (X.perm_append_comm (l₂ := [b])))
theorem permB {b r : Ck} (X : List Ck) : (X ++ [b, r]).Perm (r :: b :: X) := by have := permA (b := b) (r := r) X; simpa using this

def ptrs (g : Nat) (js : List Nat) : List Value := js.map (fun j => .pointer (some ⟨g, j, none⟩))
set_option maxRecDepth 100000 in
theorem small_con (s : Cs) (cg g tb gb : Nat) (cs : List Value) (js : List Nat) (hl : js.length ≤ 8) (hjs : ∀ j ∈ js, ∃ v, cs[j]? = some (.int .i64 v)) (hr : room (8 * js.length) s) :
    Con Try.prog 80 #[pt cg, .slice (some ⟨gb, 0, none⟩) js.length js.length] (carH cg s ++ [.blk g cs tb, .row (.slice (some ⟨gb, 0, none⟩) js.length js.length) 126 1 js.length (ptrs g js)]) (fun _ => True)
      (fun r H' => r = .tuple #[] ∧ ∃ s' cs', SmallP js s cs s' cs' ∧ H' = carH cg s' ++ [.blk g cs' tb]) := by
  refine Con.intro Try.func80 rfl Try.ntmps80 rfl (fun w _ => ?_)
  unfold pt
  refine WC.perm _ (permB (carH cg s)).symm ?_
  repeat (first | refine WC.seq ?_ | refine WC.region ?_ | refine WC.block ?_ | refine WL.move _ rfl (by decide) rfl ?_ | refine WL.ln141 rfl (by decide) rfl ?_)
  refine WC.loop (σ := Nat × Cs × List Value) (fun x => [(8, .int .i64 x.1), (7, .int .i64 js.length), (6, .slice (some ⟨gb, 0, none⟩) js.length js.length), (0, .pointer (some ⟨cg, 0, none⟩))])
    (fun x => .row (.slice (some ⟨gb, 0, none⟩) js.length js.length) 126 1 js.length (ptrs g js) :: .blk g x.2.2 tb :: carH cg x.2.1)
    (fun x => x.1 ≤ js.length ∧ (∀ j ∈ js, ∃ v, x.2.2[j]? = some (.int .i64 v)) ∧ room (8 * (js.length - x.1)) x.2.1 ∧ ∀ s2 cs2, SmallP (js.drop x.1) x.2.1 x.2.2 s2 cs2 → SmallP js s cs s2 cs2) (fun x => js.length - x.1) (0, s, cs) ⟨Nat.zero_le _, hjs, hr, fun _ _ h => h⟩
    (.cons rfl (.cons rfl (.cons rfl (.cons rfl .nil)))) (.refl _) ?_
  rintro ⟨i, s1, cs1⟩ ⟨h1, h2, h3, h4⟩
  dsimp only at h1 h2 h3 h4 ⊢
  repeat (first | refine WC.seq ?_ | refine WC.region ?_ | refine WL.bin _ _ _ rfl (by decide) rfl rfl (fun _ => rfl) ?_)
  refine WC.cond _ rfl (fun hb => ?_) (fun hb => ?_)
  · have hb : (i : Int) < js.length := of_decide_eq_true hb
    obtain ⟨j, hj⟩ : ∃ j, js[i]? = some j := ⟨_, List.getElem?_eq_getElem (by omega)⟩
    obtain ⟨v, hv⟩ := h2 j (List.mem_of_getElem? hj)
    repeat (first | refine WC.seq ?_ | refine WC.region ?_ | refine WC.block ?_ | refine WC.skip ?_)
    refine WL.idxr 0 126 1 js.length js.length .i64 (some ⟨gb, 0, none⟩) (i : Int) (ptrs g js) rfl rfl (by decide) rfl rfl Try.underlying141 size126 (by omega) hb (fun ad had => ?_)
    refine WL.le126 (v := .pointer (some ⟨g, j, none⟩)) rfl (by decide) rfl (fun w hI => row_cell hI (i := 0) rfl had (by simp [ptrs, hj])) ?_
    repeat (first | refine WC.region ?_ | refine WL.move _ rfl (by decide) rfl ?_ | refine WL.assign _ rfl (by decide) rfl ?_)
    refine WL.call [] [] [pt cg, .int .i64 (1 : Nat), .pointer (some ⟨g, j, none⟩)] _ _ [.row (.slice (some ⟨gb, 0, none⟩) js.length js.length) 126 1 js.length (ptrs g js)] (one89 s1 cg g tb j 1 (by decide) cs1 v hv (room_le h3 (by omega))) rfl (by decide) rfl Try.func89 rfl rfl rfl rfl (permA _) (fun _ _ => trivial) ?_
    rintro r H1 ⟨rfl, s2, v2, ho, rfl⟩
    refine WL.perm _ (permA _).symm ?_
    repeat (first | refine WC.region ?_ | refine WL.nil ?_ | refine WL.move _ rfl (by decide) rfl ?_ | refine WL.bin _ _ _ rfl (by decide) rfl rfl (fun _ => rfl) ?_)
    refine QE.round (i + 1, s2, cs1.set j (.int .i64 v2)) ⟨by dsimp only; omega, fun q hq => ?_, ?_, fun s3 cs3 hs => ?_⟩ (by dsimp only; omega) (.eq rfl (by congr 1; rw [wr_i64 (by omega) (by omega)]; simp) (.cons rfl (.cons rfl (.cons rfl .nil)))) (.refl _)
    · dsimp only
      by_cases hq2 : j = q
      · subst hq2; exact ⟨v2, by rw [List.getElem?_set_self (List.getElem?_eq_some_iff.1 hv).1]⟩
      · rw [List.getElem?_set_ne hq2]; exact h2 q hq
    · exact room_one (by decide) ho (room_le h3 (by dsimp only; omega))
    · refine h4 _ _ ?_
      rw [List.drop_eq_getElem_cons (by omega), (List.getElem?_eq_some_iff.1 hj).2]
      exact .cons hv ho hs
  · have hb : ¬ (i : Int) < js.length := of_decide_eq_false hb
    refine WC.perm _ (permA (carH cg s1)) ?_
    repeat (first | refine WC.exit ?_ | with_reducible refine QE.then_e ?_ | with_reducible refine QE.blk_hit ?_)
    refine QE.end0 (carH cg s1 ++ [.blk g cs1 tb]) rfl (List.sublist_append_left _ _) ⟨rfl, s1, cs1, h4 _ _ ?_, rfl⟩
    rw [List.drop_eq_nil_of_le (by omega)]
    exact .nil

/-! ### events as numbers -/
/-- An event: its numbers by their places, its two lists. -/
structure Ev where
  n : Nat → Int
  nums : List Int
  mem : List Int
def upd (f : Nat → Int) (j : Nat) (v : Int) : Nat → Int := fun i => bif Nat.beq i j then v else f i
/-- An event's cells. -/
def evC (e : Nat → Int) (s t : Value) : List Value :=
  [.int .i64 (e 0), .int .i64 (e 1), .int .i64 (e 2), .int .i64 (e 3), .int .i64 (e 4), .bool (e 5 == 1), s, .int .i64 (e 7), .int .i64 (e 8), .int .i64 (e 9), .int .i64 (e 10), .int .i64 (e 11), .int .i64 (e 12), .int .u32 (e 13), .int .u32 (e 14),
    .int .i64 (e 15), .int .i64 (e 16), .int .i64 (e 17), .int .i64 (e 18), .int .i64 (e 19), .int .i64 (e 20), .int .i64 (e 21), .int .i64 (e 22), .int .i64 (e 23), .int .u32 (e 24), .int .u32 (e 25), .int .u32 (e 26), t, .int .i64 (e 28)]
/-- What counts: a number of some bytes at a place, a flag, a list. -/
inductive Fd where
  | n (j w : Nat) (k : IntKind)
  | f (j : Nat)
  | l (j : Nat)
def Ev.lst (e : Ev) (j : Nat) : List Int := bif Nat.beq j 6 then e.nums else e.mem
def Ev.setl (e : Ev) (j : Nat) (l : List Int) : Ev := bif Nat.beq j 6 then ⟨e.n, l, e.mem⟩ else ⟨e.n, e.nums, l⟩
def u8b (x : Int) : List Int := beB 1 (IntKind.u64.wrap x)
def okD (e : Ev) : Fd → Bool
  | .n j w k => !nofit w (IntKind.u64.wrap (e.n j))
  | .f j => true
  | .l j => decide ((e.lst j).length ≤ 32) && (e.lst j).all (fun x => !nofit 1 (IntKind.u64.wrap x))
def wrD (e : Ev) : Fd → List Int
  | .n j w k => beB w (IntKind.u64.wrap (e.n j))
  | .f j => [if e.n j = 1 then 1 else 0]
  | .l j => u8b (e.lst j).length ++ (e.lst j).flatMap u8b
def szD : Fd → Nat
  | .n j w k => 8
  | .f j => 8
  | .l j => 300
def okF (fs : List Fd) (e : Ev) : Bool := fs.all (okD e)
def wrF (fs : List Fd) (e : Ev) : List Int := fs.flatMap (wrD e)
def szF (fs : List Fd) : Nat := (fs.map szD).sum
/-- What reading comes to: the bytes left and the event; bytes that end too early; bytes of nothing. -/
inductive Res where
  | good (rest : List Int) (e : Ev)
  | short
  | code
def rdD (r : Res) (f : Fd) : Res :=
  match r with
  | .short => .short
  | .code => .code
  | .good rest e => match f with
    | .n j w k => if w ≤ rest.length then .good (rest.drop w) ⟨upd e.n j (k.wrap (beU (rest.take w))), e.nums, e.mem⟩ else .short
    | .f j => match rest with
      | [] => .short
      | x :: r => if 1 < x then .code else .good r ⟨upd e.n j x, e.nums, e.mem⟩
    | .l j => match rest with
      | [] => .short
      | x :: r => if 32 < x then .code else if r.length < x.toNat then .short else .good (r.drop x.toNat) (e.setl j (r.take x.toNat))
def rdF (fs : List Fd) (r : Res) : Res := fs.foldl rdD r
def resOf (bad : Bool) (er : Int) (l : List Int) (wk : Nat) (e : Ev) : Res := if bad then .code else if er ≠ 0 then .short else .good (l.drop wk) e

/-- What carrying some fields does: to bytes, or from them. -/
def T (fs : List Fd) (s : Cs) (e : Ev) (s' : Cs) (e' : Ev) : Prop :=
  match s with
  | .w A c out bad => e' = e ∧ ∃ A' c' out' bad', s' = .w A' c' out' bad' ∧ out'.length ≤ out.length + szF fs ∧ (bad' = true ↔ bad = true ∨ okF fs e = false) ∧ (bad' = false → out' = out ++ wrF fs e)
  | .r rg A c l wk er bad => ∃ wk' er' bad', s' = .r rg A c l wk' er' bad' ∧ room 0 s' ∧ resOf bad' er' l wk' e' = rdF fs (resOf bad er l wk e)
theorem T.comp {fs gs : List Fd} {s s1 s2 : Cs} {e e1 e2 : Ev} (h : T fs s e s1 e1) (k : T gs s1 e1 s2 e2) : T (fs ++ gs) s e s2 e2 := by
  cases s with
  | w A c out bad =>
    obtain ⟨rfl, A1, c1, o1, b1, rfl, l1, f1, w1⟩ := h
    obtain ⟨rfl, A2, c2, o2, b2, rfl, l2, f2, w2⟩ := k
    refine ⟨rfl, A2, c2, o2, b2, rfl, ?_, ?_, fun hb => ?_⟩
    · simp only [szF, List.map_append, List.sum_append] at l1 l2 ⊢; omega
    · rw [f2, f1]; simp only [okF, List.all_append, Bool.and_eq_false_iff]; exact or_assoc
    · have hb1 : b1 = false := by
        cases b1 with
        | false => rfl
        | true => rw [f2.2 (.inl rfl)] at hb; cases hb
      rw [w2 hb, w1 hb1]; simp [wrF]
  | r rg A c l wk er bad =>
    obtain ⟨wk1, er1, b1, rfl, r1, h1⟩ := h
    obtain ⟨wk2, er2, b2, rfl, r2, h2⟩ := k
    exact ⟨wk2, er2, b2, rfl, r2, by rw [h2, h1]; simp [rdF]⟩
theorem T.room {fs : List Fd} {s s' : Cs} {e e' : Ev} {n : Nat} (h : T fs s e s' e') (hr : room (n + szF fs) s) : room n s' := by
  cases s with
  | w A c out bad =>
    obtain ⟨rfl, A1, c1, o1, b1, rfl, l1, _⟩ := h
    have hr : out.length + (n + szF fs) ≤ 140737488355328 := hr
    show o1.length + n ≤ _
    omega
  | r rg A c l wk er bad =>
    obtain ⟨wk1, er1, b1, rfl, r1, h1⟩ := h
    exact r1
theorem tkR_good {l : List Int} {wk W : Nat} (h : wk + W ≤ l.length) : tkR l wk 0 W = (l.drop wk).take W ∧ wkR l.length wk 0 W = wk + W ∧ erR l.length wk 0 W = 0 := by
  have hb : Oct.bad l.length wk 0 W = false := by simp [Oct.bad]; omega
  refine ⟨by simp [tkR, hb], by simp [wkR, hb], ?_⟩
  rw [erR, if_neg (by decide), if_neg (by omega), if_neg (by omega)]
theorem tkR_short {l : List Int} {wk W : Nat} (hk : wk ≤ l.length) (h : ¬ wk + W ≤ l.length) : tkR l wk 0 W = [] ∧ wkR l.length wk 0 W = wk ∧ erR l.length wk 0 W = 7 := by
  have hb : Oct.bad l.length wk 0 W = true := by simp [Oct.bad]; omega
  refine ⟨by simp [tkR, hb], by simp [wkR, hb], ?_⟩
  rw [erR, if_neg (by decide), if_neg (by omega), if_pos (by omega)]
theorem tkR_er {l : List Int} {wk W : Nat} {er : Int} (h : er ≠ 0) : tkR l wk er W = [] ∧ wkR l.length wk er W = wk ∧ erR l.length wk er W = er := by
  have hb : Oct.bad l.length wk er W = true := by simp [Oct.bad, h]
  exact ⟨by simp [tkR, hb], by simp [wkR, hb], by rw [erR, if_pos h]⟩
theorem T_one {j W : Nat} {k : IntKind} {s s' : Cs} {e : Ev} {v' : Int} (hW : W ≤ 8) (h : OneV W k s (e.n j) s' v') (hr : room 8 s) : T [.n j W k] s e s' ⟨upd e.n j v', e.nums, e.mem⟩ := by
  have hr' := room_one (n := 0) hW h (room_le hr (by omega))
  cases s with
  | w A c out bad =>
    obtain ⟨rfl, A', c', rfl⟩ := h
    refine ⟨?_, A', c', _, _, rfl, ?_, ?_, fun _ => by simp [wrF, wrD]⟩
    · have : upd e.n j (e.n j) = e.n := by
        funext i
        unfold upd
        cases hb : Nat.beq i j with
        | false => rfl
        | true => have := Nat.eq_of_beq_eq_true hb; subst this; rfl
      rw [this]
    · rw [List.length_append, beB_len]; simp [szF, szD]; omega
    · simp [okF, okD]
  | r rg A c l wk er bad =>
    obtain ⟨rfl, rfl⟩ := h
    refine ⟨_, _, bad, rfl, hr', ?_⟩
    simp only [rdF, List.foldl_cons, List.foldl_nil]
    cases bad with
    | true => rfl
    | false =>
      by_cases he : er = 0
      · subst he
        by_cases hl : wk + W ≤ l.length
        · obtain ⟨h1, h2, h3⟩ := tkR_good hl
          rw [h1, h2, h3]
          simp only [resOf, rdD, Bool.false_eq_true, if_false, ne_eq, not_true]
          rw [if_pos (by simp; omega)]
          simp
        · obtain ⟨h1, h2, h3⟩ := tkR_short hr.1 hl
          rw [h1, h2, h3]
          show Res.short = rdD (.good (l.drop wk) e) (.n j W k)
          simp only [rdD]
          rw [if_neg (by have := hr.1; simp; omega)]
      · obtain ⟨h1, h2, h3⟩ := tkR_er (l := l) (wk := wk) (W := W) he
        rw [h2, h3]
        simp [resOf, rdD, he]
end Go.Proofs.Ytalafklnnohlgaa.Cod
