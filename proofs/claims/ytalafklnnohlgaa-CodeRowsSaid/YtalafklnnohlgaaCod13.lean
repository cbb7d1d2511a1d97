/- The statements' own helpers: bytes compared, events with lists of their own, wakes. Conditions: the bytes are such. -/
import Derived.Test.YtalafklnnohlgaaPur2
namespace Go.Proofs.Ytalafklnnohlgaa.Cod
open Go.RowKit X Go.Proofs.YtalafklnnohlgaaW.PrintLast
open Oct hiding agg39 size39
set_option linter.unusedVariables false
set_option linter.unusedSimpArgs false

theorem strN_eq {x y : List Int} (hx : Byt x) (hy : Byt y) : ((strOfNums x).toList == (strOfNums y).toList) = decide (x = y) := by
  have key : ∀ (x y : List Int), Byt x → Byt y → x.map (fun n => UInt8.ofNat n.toNat) = y.map (fun n => UInt8.ofNat n.toNat) → x = y := by
    intro x
    induction x with
    | nil => intro y _ _ h; cases y with
      | nil => rfl
      | cons _ _ => simp at h
    | cons a x ih => intro y hx hy h; cases y with
      | nil => simp at h
      | cons b y =>
        simp only [List.map_cons, List.cons.injEq] at h
        have ha := hx a (by simp)
        have hb := hy b (by simp)
        have h1 := congrArg UInt8.toNat h.1
        simp only [UInt8.toNat_ofNat'] at h1
        rw [ih y (fun u hu => hx u (by simp [hu])) (fun u hu => hy u (by simp [hu])) h.2]
        congr 1
        omega
  rw [ByteArray.toList_eq, ByteArray.toList_eq, strOfNums_data, strOfNums_data]
  by_cases h : x = y
  · subst h; simp
  · rw [decide_eq_false h]
    simp only [beq_eq_false_iff_ne, ne_eq]
    exact fun hh => h (key x y hx hy hh)
theorem rds_take {w : World} {A : Option Addr} {n c : Nat} {xs : List Value} (h : Rds w A n 1 xs) (hc : n ≤ c) (k : Nat) (hk : k ≤ n) : Rds w A k 1 (xs.take k) := by
  have := h.cut 0 k (Nat.zero_le _) hk hc
  simpa [cutA_0] using this
theorem QE.perm {E : Env} {N : Nat} {Q : Exit → Act → World → Prop} {e : Exit} {m : List (Nat × Value)} {H : List Ck} (H' : List Ck) (hs : H'.Perm H) (h : QE E N Q e m H') : QE E N Q e m H := fun a w hF hI => h a w hF (hI.perm hs)
theorem b8_take (l : List Int) (k : Nat) : (b8 l).take k = b8 (l.take k) := by simp [b8, List.map_take]
theorem i64s_take (l : List Int) (k : Nat) : (i64s l).take k = i64s (l.take k) := by simp [i64s, List.map_take]
theorem i64s_one (l : List Int) : ∀ u ∈ i64s l, u.oneCell' = true := by
  intro u hu
  obtain ⟨x, _, rfl⟩ := List.mem_map.1 hu
  rfl

set_option maxRecDepth 100000 in
theorem equalB_con (A B : Option Addr) (c k : Nat) (x y : List Int) (hx : Byt x) (hy : Byt y) :
    Con Try.prog 19 #[.slice A x.length c, .slice B y.length k] [] (fun w => Rds w A x.length 1 (b8 x) ∧ Rds w B y.length 1 (b8 y)) (same (.bool (decide (x = y))) []) := by
  refine Con.intro Try.func19 rfl Try.ntmps19 rfl (fun w hR => ?_)
  repeat (first | refine WC.seq ?_ | refine WC.region ?_ | refine WL.move _ rfl (by decide) rfl ?_ | refine WL.assign _ rfl (by decide) rfl ?_)
  refine WL.bstr x Try.underlying39 Try.underlying5 Try.underlying9 rfl (by decide) rfl (fun w hI => Oct.kept0 hR.1 hI.kp rfl) ?_
  repeat (refine WL.move _ rfl (by decide) rfl ?_)
  refine WL.bstr y Try.underlying39 Try.underlying5 Try.underlying9 rfl (by decide) rfl (fun w hI => Oct.kept0 hR.2 hI.kp rfl) ?_
  refine WL.seq _ _ Try.underlying9 rfl (by decide) rfl rfl ?_
  rw [strN_eq hx hy]
  repeat (first | refine WC.ret ?_ | refine WL.assign _ rfl (by decide) rfl ?_)
  exact QE.ret1 _ _ rfl rfl (.refl _) ⟨rfl, rfl⟩

set_option maxRecDepth 100000 in
theorem pref_con (A B : Option Addr) (c k : Nat) (x y : List Int) (hx : Byt x) (hy : Byt y) (hc : x.length ≤ c) (hxl : x.length ≤ maxLen) (hyl : y.length ≤ maxLen) :
    Con Try.prog 51 #[.slice A x.length c, .slice B y.length k] [] (fun w => Rds w A x.length 1 (b8 x) ∧ Rds w B y.length 1 (b8 y)) (same (.bool (decide (y <+: x))) []) := by
  simp only [maxLen] at hxl hyl
  refine Con.intro Try.func51 rfl Try.ntmps51 rfl (fun w hR => ?_)
  repeat (first | refine WC.seq ?_ | refine WC.region ?_ | refine WL.move _ rfl (by decide) rfl ?_ | refine WL.assign _ rfl (by decide) rfl ?_ | refine WL.bin _ _ _ rfl (by decide) rfl rfl (fun _ => rfl) ?_ | refine WL.ln39 rfl (by decide) rfl ?_)
  refine WL.split 10 _ rfl (fun h => ?_) (fun h => ?_)
  · have h : (y.length : Int) ≤ x.length := by simpa using h
    have h' : y.length ≤ x.length := by omega
    repeat (first | refine WL.move _ rfl (by decide) rfl ?_ | refine WL.ln39 rfl (by decide) rfl ?_)
    refine WL.cuth A x.length c y.length .i64 Try.underlying39 size5 (by omega) rfl (by decide) rfl rfl ?_
    repeat (refine WL.move _ rfl (by decide) rfl ?_)
    have hl : (x.take y.length).length = y.length := by simp; omega
    refine WL.call [] [] [.slice A (x.take y.length).length c, .slice B y.length k] _ [] _ (equalB_con A B c k (x.take y.length) y (byt_take hx _) hy) rfl (by decide) rfl Try.func19 rfl rfl (by simp only [List.map_cons, List.map_nil, hl]; rfl) rfl (.refl _) (fun w hI => ⟨?_, Oct.kept0 hR.2 hI.kp rfl⟩) ?_
    · have := rds_take (Oct.kept0 hR.1 hI.kp rfl) hc y.length h'
      rw [b8_take] at this
      rw [hl]; exact this
    rintro v H1 ⟨rfl, rfl⟩
    repeat (first | refine WC.ret ?_ | refine WL.assign _ rfl (by decide) rfl ?_ | refine WL.pick _ _ rfl (by decide) rfl rfl ?_)
    refine QE.ret1 _ _ rfl rfl (.refl _) ⟨?_, rfl⟩
    congr 1
    rw [decide_eq_decide, List.prefix_iff_eq_take]
    exact eq_comm
  · have h : ¬ (y.length : Int) ≤ x.length := by simpa using h
    repeat (first | refine WC.ret ?_ | refine WL.assign _ rfl (by decide) rfl ?_ | refine WL.off rfl (by decide) ?_ | refine WL.pick _ _ rfl (by decide) rfl rfl ?_)
    refine QE.ret1 _ _ rfl rfl (.refl _) ⟨?_, rfl⟩
    rw [decide_eq_false (fun hp => by have := hp.length_le; omega)]

def mnI (a b : Int) : Int := if b < a then b else a
theorem run_mn {P : Program} (w : World) (ts : Array TypeId) (ty : TypeId) (a b : Int) : (Builtin.min_ ts ty #[.int .i64 a, .int .i64 b]).run P w = .ok (.int .i64 (mnI a b)) w := by
  unfold mnI
  rfl
theorem WL.mn {P : Program} {E : Env} {N : Nat} {m : List (Nat × Value)} {H : List Ck} {Q : Exit → Act → World → Prop} {ops : Array Oper} {rest : List Oper} {ty : TypeId} {pos : String} {af : Array Edge} {g : Option (Nat × Bool)} {d : Nat} {x y : Operand} {ts : Array TypeId}
    (a b : Int) (v : Int) (hw : Wd ops m g = some true) (hd : d < N) (hx : ev m x = some (.int .i64 a)) (hy : ev m y = some (.int .i64 b)) (hv : mnI a b = v) (h : WL P E N ops Q ((d, .int .i64 v) :: m) H rest) : WL P E N ops Q m H (⟨some d, .call { callee := .builtin .min, args := #[x, y], argTypes := ts }, ty, pos, af, g⟩ :: rest) :=
  WL.val _ hw hd (fun a' w hF hI => by
    subst hv
    simp only [execOp, resolve, invoke, List.map_toArray, List.map_cons, List.map_nil, hF.eval hx, hF.eval hy]
    simp [builtin, run_mn]) h
theorem mn_nat (a b : Nat) : mnI (a : Int) (b : Int) = ((min a b : Nat) : Int) := by unfold mnI; split <;> omega

set_option maxRecDepth 100000 in
theorem ints_con (A : Option Addr) (c : Nat) (L : List Int) (hc : L.length ≤ c) (hl : L.length ≤ maxLen) :
    Con Try.prog 56 #[.slice A L.length c] [] (fun w => Rds w A L.length 1 (i64s L)) (fun v H' => ∃ A' c', v = .slice A' (L.take 33).length c' ∧ H' = [.row (.slice A' (L.take 33).length c') 3 1 (L.take 33).length (i64s (L.take 33))]) := by
  simp only [maxLen] at hl
  have hlt : (L.take 33).length = min L.length 33 := by simp [Nat.min_comm]
  refine Con.intro Try.func56 rfl Try.ntmps56 rfl (fun w hR => ?_)
  repeat (first | refine WC.seq ?_ | refine WC.region ?_ | refine WL.assign _ rfl (by decide) rfl ?_)
  refine WL.buildS 0 3 1 [] [] rfl (by decide) rfl rfl rfl (fun w => by kernel_rfl) (fun gb => ?_)
  repeat (first | refine WL.move _ rfl (by decide) rfl ?_ | refine WL.ln25 rfl (by decide) rfl ?_)
  refine WL.mn (L.length : Int) 33 ((L.take 33).length : Int) rfl (by decide) rfl rfl (by rw [hlt, ← mn_nat]; rfl) ?_
  refine WL.cuth A L.length c (L.take 33).length .i64 Try.underlying25 size3 (by omega) rfl (by decide) rfl rfl ?_
  refine WL.append 0 3 1 8 0 (L.take 33).length c (.int .i64 0) _ A [] (i64s (L.take 33)) rfl (by decide) rfl rfl Try.underlying25 info3 rfl (by decide) rfl (fun w hI => ⟨by omega, ?_⟩) (i64s_one _) (by omega) (by omega) (fun A1 c1 => ?_)
  · have := rds_take (Oct.kept0 hR hI.kp rfl) hc (L.take 33).length (by omega)
    rw [i64s_take] at this
    have e : L.take (L.take 33).length = L.take 33 := by
      rw [hlt]
      rcases Nat.le_total L.length 33 with h | h
      · rw [Nat.min_eq_left h, List.take_length, List.take_of_length_le h]
      · rw [Nat.min_eq_right h]
    rw [e] at this
    exact this
  rw [Nat.zero_add]
  repeat (first | refine WC.ret ?_ | refine WL.assign _ rfl (by decide) rfl ?_)
  exact QE.ret1 _ _ rfl rfl (.refl _) ⟨A1, c1, rfl, rfl⟩

/-- An event with lists of its own, not too long. -/
def fewE (a : Ev) : Ev := ⟨a.n, a.nums.take 33, a.mem.take 33⟩
def evOwn (e : Ev) (v : Value) (H : List Ck) : Prop := ∃ A6 c6 A27 c27, v = evV e A6 c6 A27 c27 ∧ H = [.row (.slice A6 e.nums.length c6) 3 1 e.nums.length (i64s e.nums), .row (.slice A27 e.mem.length c27) 3 1 e.mem.length (i64s e.mem)]
theorem few_le (a : Ev) : (fewE a).nums.length ≤ 33 ∧ (fewE a).mem.length ≤ 33 := by simp [fewE]; omega
theorem le_max {n : Nat} (h : n ≤ 255) : n ≤ maxLen := Nat.le_trans h (by decide)
theorem few_max (a : Ev) : (fewE a).nums.length ≤ maxLen ∧ (fewE a).mem.length ≤ maxLen := ⟨le_max (by have := (few_le a).1; omega), le_max (by have := (few_le a).2; omega)⟩
set_option maxHeartbeats 4000000 in
set_option maxRecDepth 100000 in
theorem few_con (a : Ev) (A6 A27 : Option Addr) (c6 c27 : Nat) (h6 : a.nums.length ≤ c6 ∧ c6 ≤ maxLen) (h27 : a.mem.length ≤ c27 ∧ c27 ≤ maxLen) :
    Con Try.prog 16 #[evV a A6 c6 A27 c27] [] (fun w => EvRd w a A6 A27) (evOwn (fewE a)) := by
  refine Con.intro Try.func16 rfl Try.ntmps16 rfl (fun w hR => ?_)
  unfold evV
  repeat (first | refine WC.seq ?_ | refine WC.region ?_)
  refine WL.box _ (evC a.n (.slice A6 a.nums.length c6) (.slice A27 a.mem.length c27)) rfl (by decide) rfl rfl (fun b1 => ?_)
  refine WL.alloc zeroA (evC zeroEv.n (.slice none 0 0) (.slice none 0 0)) rfl (by decide) zero37 rfl (fun rv => ?_)
  repeat (refine WC.seq ?_)
  refine WC.draw 14 #[false, false, false, false, false, false, false, false, false, false, false, false, false, false] [.blk rv (evC zeroEv.n (.slice none 0 0) (.slice none 0 0)) 37, .blk b1 (evC a.n (.slice A6 a.nums.length c6) (.slice A27 a.mem.length c27)) 37] [10, 13] (by kernel_rfl) rfl rfl (by repeat (first | exact List.Sublist.refl _ | exact List.nil_sublist _ | refine List.Sublist.cons_cons _ ?_ | refine List.Sublist.cons _ ?_)) ?_
  refine WA.faddr 0 #[true, false, false, false, false, false, false, false, false, false, false, false, false, false] _ _ rfl (fa37_1 _ _) rfl rfl (by decide) (by kernel_rfl) (by repeat (first | with_reducible refine Qp.then ?_ | with_reducible refine Qp.blk ?_ | with_reducible exact Qp.body)) ?_
  refine WA.faddr 1 #[true, true, false, false, false, false, false, false, false, false, false, false, false, false] _ _ rfl (fa33_5 _ _) rfl rfl (by decide) (by kernel_rfl) (by repeat (first | with_reducible refine Qp.then ?_ | with_reducible refine Qp.blk ?_ | with_reducible exact Qp.body)) ?_
  refine WA.load 2 #[true, true, true, false, false, false, false, false, false, false, false, false, false, false] 1 _ _ _ _ _ rfl rfl (by decide) (by repeat (first | exact List.Sublist.refl _ | exact List.nil_sublist _ | refine List.Sublist.cons_cons _ ?_ | refine List.Sublist.cons _ ?_)) (by kernel_rfl) (by repeat (first | with_reducible refine Qp.then ?_ | with_reducible refine Qp.blk ?_ | with_reducible exact Qp.body)) rfl agg25 rfl rfl ?_
  refine WA.faddr 4 #[true, true, true, false, true, false, false, false, false, false, false, false, false, false] _ _ rfl (fa37_2 _ _) rfl rfl (by decide) (by kernel_rfl) (by repeat (first | with_reducible refine Qp.then ?_ | with_reducible refine Qp.blk ?_ | with_reducible exact Qp.body)) ?_
  refine WA.faddr 5 #[true, true, true, false, true, true, false, false, false, false, false, false, false, false] _ _ rfl (fa35_11 _ _) rfl rfl (by decide) (by kernel_rfl) (by repeat (first | with_reducible refine Qp.then ?_ | with_reducible refine Qp.blk ?_ | with_reducible exact Qp.body)) ?_
  refine WA.load 6 #[true, true, true, false, true, true, true, false, false, false, false, false, false, false] 1 _ _ _ _ _ rfl rfl (by decide) (by repeat (first | exact List.Sublist.refl _ | exact List.nil_sublist _ | refine List.Sublist.cons_cons _ ?_ | refine List.Sublist.cons _ ?_)) (by kernel_rfl) (by repeat (first | with_reducible refine Qp.then ?_ | with_reducible refine Qp.blk ?_ | with_reducible exact Qp.body)) rfl agg25 rfl rfl ?_
  refine WA.call 3 #[true, true, true, true, true, true, true, false, false, false, false, false, false, false] [] [] [.slice A6 a.nums.length c6] _ [] _ (ints_con A6 c6 a.nums h6.1 (Nat.le_trans h6.1 h6.2)) rfl rfl (by decide) (by kernel_rfl) rfl rfl Try.func56 rfl rfl rfl rfl (.refl _) (fun w hI => (hR.kept hI.kp rfl).1) ?_
  rintro v H1 ⟨A1, c1, rfl, rfl⟩
  refine ⟨(by repeat (first | exact List.Sublist.refl _ | exact List.nil_sublist _ | refine List.Sublist.cons_cons _ ?_ | refine List.Sublist.cons _ ?_)), ?_⟩
  refine WA.faddr 8 #[true, true, true, true, true, true, true, false, true, false, false, false, false, false] _ _ rfl (fa37_1 _ _) rfl rfl (by decide) (by kernel_rfl) (by repeat (first | with_reducible refine Qp.then ?_ | with_reducible refine Qp.blk ?_ | with_reducible exact Qp.body)) ?_
  refine WA.faddr 9 #[true, true, true, true, true, true, true, false, true, true, false, false, false, false] _ _ rfl (fa33_5 _ _) rfl rfl (by decide) (by kernel_rfl) (by repeat (first | with_reducible refine Qp.then ?_ | with_reducible refine Qp.blk ?_ | with_reducible exact Qp.body)) ?_
  refine WA.call 7 #[true, true, true, true, true, true, true, true, true, true, false, false, false, false] [] [] [.slice A27 a.mem.length c27] _ [] _ (ints_con A27 c27 a.mem h27.1 (Nat.le_trans h27.1 h27.2)) rfl rfl (by decide) (by kernel_rfl) rfl rfl Try.func56 rfl rfl rfl rfl (.refl _) (fun w hI => (hR.kept hI.kp rfl).2) ?_
  rintro v H1 ⟨A2, c2, rfl, rfl⟩
  refine ⟨(by repeat (first | exact List.Sublist.refl _ | exact List.nil_sublist _ | refine List.Sublist.cons_cons _ ?_ | refine List.Sublist.cons _ ?_)), ?_⟩
  refine WA.store 10 #[true, true, true, true, true, true, true, true, true, true, true, false, false, false] 3 b1 6 _ _ (evC a.n (.slice A1 (a.nums.take 33).length c1) (.slice A27 a.mem.length c27)) _ _ rfl rfl (by kernel_rfl) rfl rfl rfl rfl rfl size25 rfl rfl rfl ?_
  refine WA.faddr 11 #[true, true, true, true, true, true, true, true, true, true, true, true, false, false] _ _ rfl (fa37_2 _ _) rfl rfl (by decide) (by kernel_rfl) (by repeat (first | with_reducible refine Qp.then ?_ | with_reducible refine Qp.blk ?_ | with_reducible exact Qp.body)) ?_
  refine WA.faddr 12 #[true, true, true, true, true, true, true, true, true, true, true, true, true, false] _ _ rfl (fa35_11 _ _) rfl rfl (by decide) (by kernel_rfl) (by repeat (first | with_reducible refine Qp.then ?_ | with_reducible refine Qp.blk ?_ | with_reducible exact Qp.body)) ?_
  refine WA.store 13 #[true, true, true, true, true, true, true, true, true, true, true, true, true, true] 3 b1 27 _ _ (evC a.n (.slice A1 (a.nums.take 33).length c1) (.slice A2 (a.mem.take 33).length c2)) _ _ rfl rfl (by kernel_rfl) rfl rfl rfl rfl rfl size25 rfl rfl rfl ?_
  refine WA.done (by kernel_rfl) ?_
  repeat (first | refine WC.seq ?_ | refine WC.region ?_ | refine WC.ret ?_ | refine WL.ld37 3 rfl (by decide) rfl rfl rfl rfl ?_ | refine WL.st37 2 rfl rfl rfl rfl rfl rfl rfl rfl rfl ?_)
  refine QE.perm _ (List.Perm.swap _ _ _) ?_
  refine QE.retc1 2 rv 29 (evC a.n (.slice A1 (a.nums.take 33).length c1) (.slice A2 (a.mem.take 33).length c2)) 37 [.row (.slice A1 (a.nums.take 33).length c1) 3 1 (a.nums.take 33).length (i64s (a.nums.take 33)), .row (.slice A2 (a.mem.take 33).length c2) 3 1 (a.mem.take 33).length (i64s (a.mem.take 33))] rfl agg37 size37 rfl rfl rfl (.cons_cons _ (.cons_cons _ (List.nil_sublist _))) ⟨A1, c1, A2, c2, rfl, rfl⟩
set_option maxRecDepth 100000 in
theorem up_con (v : Int) : Con Try.prog 55 #[.int .i64 v] [] (fun _ => True) (same (evV (upE v) none 0 none 0) []) := by
  refine Con.intro Try.func55 rfl Try.ntmps55 rfl (fun w _ => ?_)
  repeat (first | refine WC.seq ?_ | refine WC.region ?_)
  refine WL.alloc zeroA (evC zeroEv.n (.slice none 0 0) (.slice none 0 0)) rfl (by decide) zero37 rfl (fun rv => ?_)
  repeat (first | refine WC.seq ?_ | refine WC.region ?_ | refine WL.move _ rfl (by decide) rfl ?_)
  refine WL.build [(0, .int .i64 5), (1, .int .i64 v)] (.agg ((((evC (upE v).n (.slice none 0 0) (.slice none 0 0)).drop 1).take 14).toArray)) rfl (by decide) rfl (fun w => by kernel_rfl) ?_
  refine WL.build [(0, .int .i64 1), (1, .agg ((((evC (upE v).n (.slice none 0 0) (.slice none 0 0)).drop 1).take 14).toArray))] (.agg (evC (upE v).n (.slice none 0 0) (.slice none 0 0)).toArray) rfl (by decide) rfl (fun w => by kernel_rfl) ?_
  refine WL.st37 0 (cs' := evC (upE v).n (.slice none 0 0) (.slice none 0 0)) rfl rfl rfl rfl rfl rfl rfl rfl rfl ?_
  repeat (refine WC.ret ?_)
  exact QE.retc1 0 rv 29 (evC (upE v).n (.slice none 0 0) (.slice none 0 0)) 37 [] rfl agg37 size37 rfl rfl rfl (List.nil_sublist _) ⟨rfl, rfl⟩
theorem upOk (w : World) (v : Int) : EvOk w (upE v) none none := ⟨⟨⟨rfl, (fun _ => rfl), (fun _ h => by cases h)⟩, ⟨rfl, (fun _ => rfl), (fun _ h => by cases h)⟩⟩, (fun _ h => by cases h), (fun _ h => by cases h)⟩
theorem upMax (v : Int) : (upE v).nums.length ≤ maxLen ∧ (upE v).mem.length ≤ maxLen := ⟨Nat.zero_le _, Nat.zero_le _⟩
theorem byt153 : Byt [1, 5, 3] := by intro u hu; simp at hu; omega
set_option maxHeartbeats 4000000 in
set_option maxRecDepth 100000 in
theorem wakes_con : Con Try.prog 15 #[] [] (fun _ => True) (same (.bool true) []) := by
  refine Con.intro Try.func15 rfl Try.ntmps15 rfl (fun w _ => ?_)
  repeat (first | refine WC.seq ?_ | refine WC.region ?_ | refine WL.assign _ rfl (by decide) rfl ?_)
  refine WL.call [] [] [.int .i64 3] _ [] _ (up_con 3) rfl (by decide) rfl Try.func55 rfl rfl rfl rfl (.refl _) (fun _ _ => trivial) ?_
  rintro v H1 ⟨rfl, rfl⟩
  refine WL.call [] [] [evV (upE 3) none 0 none 0] _ [] _ (encode_con (upE 3) none none 0 0 (upMax 3)) rfl (by decide) rfl Try.func23 rfl rfl rfl rfl (.refl _) (fun w _ => upOk w 3) ?_
  rintro v H1 ⟨A1, c1, rfl, rfl, _⟩
  rw [(encB_of up3).1, (encB_of up3).2]
  repeat (first | refine WC.seq ?_ | refine WC.region ?_ | refine WL.move _ rfl (by decide) rfl ?_ | refine WL.assign _ rfl (by decide) rfl ?_ | refine WL.extract _ _ rfl (by decide) rfl (fun _ => rfl) ?_)
  refine WL.buildS 3 5 1 [(0, .int .u8 1), (1, .int .u8 5), (2, .int .u8 3)] (b8 [1, 5, 3]) rfl (by decide) rfl rfl rfl (fun w => by kernel_rfl) (fun gb => ?_)
  refine WL.call [] [] [.slice (some ⟨gb, 0, none⟩) 3 3] _ [] _ (decode_con (some ⟨gb, 0, none⟩) 3 [1, 5, 3] (Nat.le_refl _) (by decide) byt153) rfl (by decide) rfl Try.func48 rfl rfl rfl rfl (.refl _) (fun w hI => (row_reads hI (i := 0) rfl).2) ?_
  rintro v H1 ⟨ev, rfl, _, _, B6, k6, B27, k27, rfl, rfl⟩
  obtain ⟨x, hx⟩ : ∃ x, decP [1, 5, 3] = x := ⟨_, rfl⟩
  have hd := dec153
  rw [hx] at hd ⊢
  obtain ⟨er, e⟩ := x
  obtain ⟨rfl, hd2⟩ := hd
  dsimp only at hd2 ⊢
  unfold evV
  repeat (first | refine WL.move _ rfl (by decide) rfl ?_ | refine WL.extract _ _ rfl (by decide) rfl (fun _ => rfl) ?_)
  refine WL.know (.agg (evC e.n (.slice B6 e.nums.length k6) (.slice B27 e.mem.length k27)).toArray) (s := 15) rfl rfl ?_
  refine WL.alloc zeroA (evC zeroEv.n (.slice none 0 0) (.slice none 0 0)) rfl (by decide) zero37 rfl (fun g2 => ?_)
  refine WL.st37 0 (cs' := evC e.n (.slice B6 e.nums.length k6) (.slice B27 e.mem.length k27)) rfl rfl rfl rfl rfl rfl rfl rfl rfl ?_
  repeat (first | refine WC.seq ?_ | refine WC.region ?_ | refine WL.assign _ rfl (by decide) rfl ?_)
  refine WL.call [] [] [.int .i64 256] _ [] _ (up_con 256) rfl (by decide) rfl Try.func55 rfl rfl rfl rfl (.refl _) (fun _ _ => trivial) ?_
  rintro v H1 ⟨rfl, rfl⟩
  refine WL.call [] [] [evV (upE 256) none 0 none 0] _ [] _ (encode_con (upE 256) none none 0 0 (upMax 256)) rfl (by decide) rfl Try.func23 rfl rfl rfl rfl (.refl _) (fun w _ => upOk w 256) ?_
  rintro v H1 ⟨A2, c2, rfl, rfl, _⟩
  rw [(encB_none up256).1, (encB_none up256).2]
  repeat (first | refine WC.seq ?_ | refine WC.region ?_ | refine WL.move _ rfl (by decide) rfl ?_ | refine WL.assign _ rfl (by decide) rfl ?_ | refine WL.bin _ _ _ rfl (by decide) rfl rfl (fun _ => rfl) ?_ | refine WL.extract _ _ rfl (by decide) rfl (fun _ => rfl) ?_ | refine WL.pick _ _ rfl (by decide) rfl rfl ?_)
  refine WL.buildS 3 5 1 [(0, .int .u8 1), (1, .int .u8 5), (2, .int .u8 3)] (b8 [1, 5, 3]) rfl (by decide) rfl rfl rfl (fun w => by kernel_rfl) (fun gb2 => ?_)
  refine WL.call [] [] [.slice A1 [1, 5, 3].length c1, .slice (some ⟨gb2, 0, none⟩) [1, 5, 3].length 3] _ [] _ (equalB_con A1 (some ⟨gb2, 0, none⟩) c1 3 [1, 5, 3] [1, 5, 3] byt153 byt153) rfl (by decide) rfl Try.func19 rfl rfl rfl rfl (.refl _) (fun w hI => ⟨(row_reads hI (i := 6) rfl).2, (row_reads hI (i := 0) rfl).2⟩) ?_
  rintro v H1 ⟨rfl, rfl⟩
  rw [show decide (([1, 5, 3] : List Int) = [1, 5, 3]) = true from rfl]
  repeat (first | refine WC.ret ?_ | refine WL.move _ rfl (by decide) rfl ?_ | refine WL.assign _ rfl (by decide) rfl ?_ | refine WL.bin _ _ _ rfl (by decide) rfl rfl (fun _ => rfl) ?_ | refine WL.pick _ _ rfl (by decide) rfl rfl ?_ | refine WL.fd33_1 rfl (by decide) rfl ?_ | refine WL.fd37_1 rfl (by decide) rfl ?_ | refine WL.ld3 2 rfl (by decide) rfl rfl rfl ?_)
  exact QE.ret1 _ _ rfl rfl (List.nil_sublist _) ⟨by rw [hd2]; rfl, rfl⟩
end Go.Proofs.Ytalafklnnohlgaa.Cod
