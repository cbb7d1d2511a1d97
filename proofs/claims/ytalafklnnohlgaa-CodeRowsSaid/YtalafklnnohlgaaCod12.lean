/- code's Decode, Encode, Check. Conditions: the bytes are such, and not too many. -/
import Derived.Test.YtalafklnnohlgaaCod11
import Derived.Test.YtalafklnnohlgaaX15
namespace Go.Proofs.Ytalafklnnohlgaa.Cod
open Go.RowKit X Go.Proofs.YtalafklnnohlgaaW.PrintLast
open Oct hiding agg39 size39
set_option linter.unusedVariables false
set_option linter.unusedSimpArgs false

set_option maxRecDepth 100000 in
theorem fault_con (rg : Nat) (A : Option Addr) (c : Nat) (l : List Int) (wk : Nat) (er : Int) (bad : Bool) (cg : Nat) :
    Con Try.prog 60 #[pt cg] (carH cg (.r rg A c l wk er bad)) (fun _ => True) (same (.int .i64 (if bad then 361 else er)) (carH cg (.r rg A c l wk er bad))) := by
  refine Con.intro Try.func60 rfl Try.ntmps60 rfl (fun w _ => ?_)
  simp only [carH, pt]
  cases bad
  · repeat (first | refine WC.seq ?_ | refine WC.region ?_ | refine WC.skip ?_ | refine WL.nil ?_ | with_reducible refine QE.then_n ?_ | refine WC.cond_f rfl ?_ | refine WL.move _ rfl (by decide) rfl ?_ | refine WL.assign _ rfl (by decide) rfl ?_ | refine WL.nilc _ rfl (by decide) rfl ?_ | refine WL.fd96_0 rfl (by decide) rfl ?_ | refine WL.fd96_2 rfl (by decide) rfl ?_ | refine WL.ld4 0 rfl (by decide) rfl rfl rfl ?_ | refine WL.ld68 0 rfl (by decide) rfl rfl rfl ?_)
    refine WL.call [] [] [pt rg] _ _ [.blk cg [pt rg, .slice none 0 0, .bool false] 96] (err_con rg c wk A l er) rfl (by decide) rfl Try.func37 rfl rfl rfl rfl (List.perm_append_comm (l₂ := [_])) (fun _ _ => trivial) ?_
    rintro v H1 ⟨rfl, rfl⟩
    unfold rd
    refine WL.perm _ (List.perm_append_comm (l₁ := [_])) ?_
    repeat (first | refine WC.ret ?_ | refine WL.assign _ rfl (by decide) rfl ?_)
    exact QE.ret1 _ _ rfl rfl (.refl _) ⟨rfl, rfl⟩
  · repeat (first | refine WC.seq ?_ | refine WC.region ?_ | refine WC.ret ?_ | refine WL.nil ?_ | with_reducible refine QE.then_n ?_ | with_reducible refine QE.then_r ?_ | refine WC.cond_t rfl ?_ | refine WL.move _ rfl (by decide) rfl ?_ | refine WL.assign _ rfl (by decide) rfl ?_ | refine WL.nilc _ rfl (by decide) rfl ?_ | refine WL.fd96_2 rfl (by decide) rfl ?_ | refine WL.ld4 0 rfl (by decide) rfl rfl rfl ?_)
    exact QE.ret1 _ _ rfl rfl (.refl _) ⟨rfl, rfl⟩

/-- What Decode answers. -/
def decP (b : List Int) : Int × Ev := match rdE b with
  | .good [] e => (0, e)
  | .good (_ :: _) _ => (361, zeroEv)
  | .short => (7, zeroEv)
  | .code => (361, zeroEv)
/-- An event and its lists, in memory of their own. -/
def evOut (e : Ev) (v : Value) (H : List Ck) : Prop := e.nums.length ≤ 255 ∧ e.mem.length ≤ 255 ∧ ∃ A6 c6 A27 c27, v = evV e A6 c6 A27 c27 ∧ H = [.row (.slice A6 e.nums.length c6) 3 1 e.nums.length (i64s e.nums), .row (.slice A27 e.mem.length c27) 3 1 e.mem.length (i64s e.mem)]
theorem res_fin {b : Bool} {er : Int} {l : List Int} {wk : Nat} {e : Ev} (he : er = 0 ∨ er = 7) (h : resOf b er l wk e = rdE l) (hw : wk ≤ l.length) :
    (b = true ∧ decP l = (361, zeroEv)) ∨ (b = false ∧ er = 7 ∧ decP l = (7, zeroEv)) ∨ (b = false ∧ er = 0 ∧ wk < l.length ∧ decP l = (361, zeroEv)) ∨ (b = false ∧ er = 0 ∧ wk = l.length ∧ decP l = (0, e)) := by
  unfold decP
  rw [← h]
  cases b with
  | true => exact .inl ⟨rfl, rfl⟩
  | false =>
    rcases he with rfl | rfl
    · right; right
      rw [show resOf false 0 l wk e = .good (l.drop wk) e from rfl]
      rcases Nat.lt_or_ge wk l.length with h1 | h1
      · left
        rw [List.drop_eq_getElem_cons h1]
        exact ⟨rfl, rfl, h1, rfl⟩
      · right
        rw [List.drop_eq_nil_of_le h1]
        exact ⟨rfl, rfl, by omega, rfl⟩
    · exact .inr (.inl ⟨rfl, rfl, rfl⟩)
theorem zeroC : evC zeroEv.n (.slice none 0 0) (.slice none 0 0) = [.int .i64 0, .int .i64 0, .int .i64 0, .int .i64 0, .int .i64 0, .bool false, .slice none 0 0, .int .i64 0, .int .i64 0, .int .i64 0, .int .i64 0, .int .i64 0, .int .i64 0, .int .u32 0, .int .u32 0,
    .int .i64 0, .int .i64 0, .int .i64 0, .int .i64 0, .int .i64 0, .int .i64 0, .int .i64 0, .int .i64 0, .int .i64 0, .int .u32 0, .int .u32 0, .int .u32 0, .slice none 0 0, .int .i64 0] := rfl
def zeroA : Value := .agg #[.int .i64 0, .int .i64 0, .int .i64 0, .int .i64 0, .int .i64 0, .bool false, .slice none 0 0, .int .i64 0, .int .i64 0, .int .i64 0, .int .i64 0, .int .i64 0, .int .i64 0, .int .u32 0, .int .u32 0,
    .int .i64 0, .int .i64 0, .int .i64 0, .int .i64 0, .int .i64 0, .int .i64 0, .int .i64 0, .int .i64 0, .int .i64 0, .int .u32 0, .int .u32 0, .int .u32 0, .slice none 0 0, .int .i64 0]
theorem zero37 : ∀ w, (zeroValue 37).run Try.prog w = .ok zeroA w := fun w => by kernel_rfl
theorem build37 : ∀ w, (Instr.build 37 #[]).run Try.prog w = .ok zeroA w := fun w => by kernel_rfl
/-- What an event's variable and its rows are, all told. -/
theorem slR_all {E : Env} {w : World} {e : Ev} {st tt : Value} {X H : List Ck} {cg : List Ck} {g : Nat} (h : SlR e st tt X) (hI : I E (cg ++ (.blk g (evC e.n st tt) 37 :: X)) w) :
    ∃ A6 c6 A27 c27, st = .slice A6 e.nums.length c6 ∧ tt = .slice A27 e.mem.length c27 ∧ I E (cg ++ [.blk g (evC e.n st tt) 37, .row (.slice A6 e.nums.length c6) 3 1 e.nums.length (i64s e.nums), .row (.slice A27 e.mem.length c27) 3 1 e.mem.length (i64s e.mem)]) w := by
  have hmv : ∀ (r : Ck) (Y Z : List Ck), (Y ++ r :: Z).Perm (r :: (Y ++ Z)) := fun r Y Z => List.perm_middle
  rcases h with ⟨_, _, ⟨rfl, rfl, rfl, h1, h2⟩ | ⟨A, c, rfl, rfl, h2, rfl⟩ | ⟨A, c, rfl, rfl, h1, rfl⟩⟩
  · refine ⟨none, 0, none, 0, by rw [h1]; rfl, by rw [h2]; rfl, ?_⟩
    rw [h1, h2]
    have hI2 := (hI.nilrow 3 1).nilrow 3 1
    refine hI2.perm ?_
    have := (hmv (.row (.slice none 0 0) 3 1 0 []) (cg ++ [.blk g (evC e.n (.slice none 0 0) (.slice none 0 0)) 37]) [.row (.slice none 0 0) 3 1 0 []]).trans (.cons _ (hmv _ (cg ++ [.blk g (evC e.n (.slice none 0 0) (.slice none 0 0)) 37]) []))
    simpa [i64s] using this
  · refine ⟨A, c, none, 0, rfl, by rw [h2]; rfl, ?_⟩
    rw [h2]
    refine (hI.nilrow 3 1).perm ?_
    have := hmv (.row (.slice none 0 0) 3 1 0 []) (cg ++ [.blk g (evC e.n (.slice A e.nums.length c) (.slice none 0 0)) 37, .row (.slice A e.nums.length c) 3 1 e.nums.length (i64s e.nums)]) []
    simpa [i64s] using this
  · refine ⟨none, 0, A, c, by rw [h1]; rfl, rfl, ?_⟩
    rw [h1]
    refine (hI.nilrow 3 1).perm ?_
    have := hmv (.row (.slice none 0 0) 3 1 0 []) (cg ++ [.blk g (evC e.n (.slice none 0 0) (.slice A e.mem.length c)) 37]) [.row (.slice A e.mem.length c) 3 1 e.mem.length (i64s e.mem)]
    simpa [i64s] using this
theorem WL.slR {P : Program} {E : Env} {N : Nat} {ops : Array Oper} {Q : Exit → Act → World → Prop} {m : List (Nat × Value)} {l : List Oper} {e : Ev} {st tt : Value} {X : List Ck} {cg : List Ck} {g : Nat} (h : SlR e st tt X)
    (k : ∀ A6 c6 A27 c27, st = .slice A6 e.nums.length c6 → tt = .slice A27 e.mem.length c27 → WL P E N ops Q m (cg ++ [.blk g (evC e.n st tt) 37, .row (.slice A6 e.nums.length c6) 3 1 e.nums.length (i64s e.nums), .row (.slice A27 e.mem.length c27) 3 1 e.mem.length (i64s e.mem)]) l) :
    WL P E N ops Q m (cg ++ (.blk g (evC e.n st tt) 37 :: X)) l := fun a w hF hI => by
  obtain ⟨A6, c6, A27, c27, h1, h2, h3⟩ := slR_all (H := []) h hI
  exact k A6 c6 A27 c27 h1 h2 a w hF h3
theorem QE.nilrow {E : Env} {N : Nat} {Q : Exit → Act → World → Prop} {e : Exit} {m : List (Nat × Value)} {H : List Ck} (t s : Nat) (h : QE E N Q e m (.row (.slice none 0 0) t s 0 [] :: H)) : QE E N Q e m H := fun a w hF hI => h a w hF (hI.nilrow t s)

set_option maxHeartbeats 4000000 in
set_option maxRecDepth 100000 in
theorem decode_con (A : Option Addr) (c : Nat) (b : List Int) (hc : b.length ≤ c) (hn : b.length ≤ 140737488355328) (hb : Byt b) :
    Con Try.prog 48 #[.slice A b.length c] [] (fun w => Rds w A b.length 1 (b8 b)) (fun v H' => ∃ ev, v = .tuple #[ev, .int .i64 (decP b).1] ∧ evOut (decP b).2 ev H') := by
  refine Con.intro Try.func48 rfl Try.ntmps48 rfl (fun w hR => ?_)
  repeat (first | refine WC.seq ?_ | refine WC.region ?_)
  refine WL.alloc zeroA (evC zeroEv.n (.slice none 0 0) (.slice none 0 0)) rfl (by decide) zero37 rfl (fun rv => ?_)
  repeat (first | refine WC.seq ?_ | refine WC.region ?_ | refine WL.move _ rfl (by decide) rfl ?_ | refine WL.assign _ rfl (by decide) rfl ?_)
  refine WL.call [] [] [.slice A b.length c] _ [] _ (read_con A c b hc hn) rfl (by decide) rfl Try.func35 rfl rfl rfl rfl (.refl _) (fun w hI => Oct.kept0 hR hI.kp rfl) ?_
  rintro v H1 ⟨rg, A1, c1, rfl, rfl⟩
  unfold rd
  skip
  refine WL.build [(0, pt rg)] (.agg #[pt rg, .slice none 0 0, .bool false]) rfl (by decide) rfl (fun w => by kernel_rfl) ?_
  refine WL.alloc (.agg #[.pointer none, .slice none 0 0, .bool false]) [.pointer none, .slice none 0 0, .bool false] rfl (by decide) (fun w => by kernel_rfl) rfl (fun cg => ?_)
  repeat (first | refine WC.seq ?_ | refine WC.region ?_ | refine WL.st96 0 rfl rfl rfl rfl rfl rfl rfl rfl rfl ?_)
  refine WL.alloc zeroA (evC zeroEv.n (.slice none 0 0) (.slice none 0 0)) rfl (by decide) zero37 rfl (fun g => ?_)
  repeat (first | refine WC.seq ?_ | refine WC.region ?_)
  refine WL.call [] [] [pt cg, pt g] _ _ [.blk rv (evC zeroEv.n (.slice none 0 0) (.slice none 0 0)) 37] (event_r rg A1 c1 b 0 cg g ⟨Nat.zero_le _, hn, hb, .inl rfl⟩) rfl (by decide) rfl Try.func59 rfl rfl rfl rfl ((List.perm_append_comm (l₁ := [_, _, _]) (l₂ := [_])).append_right [_]) (fun _ _ => trivial) ?_
  rintro v H1 ⟨rfl, wk, er, bd, e, st, tt, X, rfl, hsl, hrm, hres⟩
  obtain ⟨hwk, _, _, her⟩ := hrm
  rw [List.drop_zero] at hres
  have hle : e.nums.length ≤ 255 ∧ e.mem.length ≤ 255 := ⟨hsl.1, hsl.2.1⟩
  refine WL.perm ((.blk rv (evC zeroEv.n (.slice none 0 0) (.slice none 0 0)) 37 :: carH cg (.r rg A1 c1 b wk er bd)) ++ (.blk g (evC e.n st tt) 37 :: X)) (List.perm_append_comm (l₁ := [_])) ?_
  refine WL.slR hsl (fun A6 c6 A27 c27 h6 h27 => ?_)
  subst h6 h27
  simp only [carH, List.cons_append, List.nil_append]
  repeat (first | refine WC.seq ?_ | refine WC.region ?_)
  refine WL.call [] [] [pt cg] _ _ [.blk rv (evC zeroEv.n (.slice none 0 0) (.slice none 0 0)) 37, .blk g (evC e.n (.slice A6 e.nums.length c6) (.slice A27 e.mem.length c27)) 37, .row (.slice A6 e.nums.length c6) 3 1 e.nums.length (i64s e.nums), .row (.slice A27 e.mem.length c27) 3 1 e.mem.length (i64s e.mem)] (fault_con rg A1 c1 b wk er bd cg) rfl (by decide) rfl Try.func60 rfl rfl rfl rfl ((List.perm_append_comm (l₁ := [_, _, _]) (l₂ := [_])).append_right [_, _, _]) (fun _ _ => trivial) ?_
  rintro v H1 ⟨rfl, rfl⟩
  simp only [carH, List.cons_append, List.nil_append]
  rcases res_fin her hres hwk with ⟨rfl, hd⟩ | ⟨rfl, rfl, hd⟩ | ⟨rfl, rfl, hlt, hd⟩ | ⟨rfl, rfl, hq, hd⟩
  · rw [hd]
    simp only [if_true, if_false, Bool.false_eq_true]
    repeat (first | refine WC.seq ?_ | refine WC.region ?_ | refine WC.skip ?_ | refine WL.nil ?_ | with_reducible refine QE.then_n ?_ | refine WC.cond_t rfl ?_ | refine WC.cond_f rfl ?_ | refine WL.move _ rfl (by decide) rfl ?_ | refine WL.assign _ rfl (by decide) rfl ?_ | refine WL.bin _ _ _ rfl (by decide) rfl rfl (fun _ => rfl) ?_ | refine WL.off rfl (by decide) ?_ | refine WL.pick _ _ rfl (by decide) rfl rfl ?_)
    refine WL.build [] zeroA rfl (by decide) rfl build37 ?_
    repeat (first | refine WC.ret ?_ | with_reducible refine QE.then_r ?_ | refine WL.move _ rfl (by decide) rfl ?_ | refine WL.assign _ rfl (by decide) rfl ?_ | refine WL.st37 3 rfl rfl rfl rfl rfl rfl rfl rfl rfl ?_)
    refine QE.nilrow 3 1 (QE.nilrow 3 1 ?_)
    exact QE.retc2 5 rv 29 (evC zeroEv.n (.slice none 0 0) (.slice none 0 0)) 37 (.int .i64 361) [_, _] rfl agg37 size37 rfl rfl rfl rfl (.cons_cons _ (.cons_cons _ (List.nil_sublist _))) ⟨_, rfl, Nat.zero_le _, Nat.zero_le _, none, 0, none, 0, rfl, rfl⟩
  · rw [hd]
    simp only [if_true, if_false, Bool.false_eq_true]
    repeat (first | refine WC.seq ?_ | refine WC.region ?_ | refine WC.skip ?_ | refine WL.nil ?_ | with_reducible refine QE.then_n ?_ | refine WC.cond_t rfl ?_ | refine WC.cond_f rfl ?_ | refine WL.move _ rfl (by decide) rfl ?_ | refine WL.assign _ rfl (by decide) rfl ?_ | refine WL.bin _ _ _ rfl (by decide) rfl rfl (fun _ => rfl) ?_ | refine WL.off rfl (by decide) ?_ | refine WL.pick _ _ rfl (by decide) rfl rfl ?_)
    refine WL.build [] zeroA rfl (by decide) rfl build37 ?_
    repeat (first | refine WC.ret ?_ | with_reducible refine QE.then_r ?_ | refine WL.move _ rfl (by decide) rfl ?_ | refine WL.assign _ rfl (by decide) rfl ?_ | refine WL.st37 3 rfl rfl rfl rfl rfl rfl rfl rfl rfl ?_)
    refine QE.nilrow 3 1 (QE.nilrow 3 1 ?_)
    exact QE.retc2 5 rv 29 (evC zeroEv.n (.slice none 0 0) (.slice none 0 0)) 37 (.int .i64 7) [_, _] rfl agg37 size37 rfl rfl rfl rfl (.cons_cons _ (.cons_cons _ (List.nil_sublist _))) ⟨_, rfl, Nat.zero_le _, Nat.zero_le _, none, 0, none, 0, rfl, rfl⟩
  · rw [hd]
    simp only [if_false, Bool.false_eq_true]
    repeat (first | refine WC.seq ?_ | refine WC.region ?_ | refine WL.move _ rfl (by decide) rfl ?_ | refine WL.assign _ rfl (by decide) rfl ?_ | refine WL.bin _ _ _ rfl (by decide) rfl rfl (fun _ => rfl) ?_ | refine WL.fd96_0 rfl (by decide) rfl ?_ | refine WL.ld68 0 rfl (by decide) rfl rfl rfl ?_)
    refine WL.call [] [] [pt rg] _ _ [.blk cg [pt rg, .slice none 0 0, .bool false] 96, .blk rv (evC zeroEv.n (.slice none 0 0) (.slice none 0 0)) 37, .blk g (evC e.n (.slice A6 e.nums.length c6) (.slice A27 e.mem.length c27)) 37, .row (.slice A6 e.nums.length c6) 3 1 e.nums.length (i64s e.nums), .row (.slice A27 e.mem.length c27) 3 1 e.mem.length (i64s e.mem)] (left_con rg c1 wk A1 b 0 hwk) rfl (by decide) rfl Try.func38 rfl rfl rfl rfl (List.perm_middle (l₁ := [_, _])) (fun _ _ => trivial) ?_
    rintro v H1 ⟨rfl, rfl⟩
    unfold rd
    simp only [List.cons_append, List.nil_append]
    repeat (first | refine WL.nil ?_ | with_reducible refine QE.then_n ?_ | refine WL.bin _ _ _ rfl (by decide) rfl rfl (fun _ => rfl) ?_ | refine WL.pick _ _ rfl (by decide) rfl rfl ?_)
    refine WC.cond_t (by show some (Value.bool (decide _)) = _; rw [decide_eq_true (by omega)]) ?_
    repeat (first | refine WC.seq ?_ | refine WC.region ?_ | refine WL.nil ?_ | with_reducible refine QE.then_n ?_ | refine WC.cond_t rfl ?_ | refine WL.move _ rfl (by decide) rfl ?_ | refine WL.assign _ rfl (by decide) rfl ?_ | refine WL.bin _ _ _ rfl (by decide) rfl rfl (fun _ => rfl) ?_)
    refine WL.build [] zeroA rfl (by decide) rfl build37 ?_
    repeat (first | refine WC.ret ?_ | with_reducible refine QE.then_r ?_ | refine WL.move _ rfl (by decide) rfl ?_ | refine WL.assign _ rfl (by decide) rfl ?_ | refine WL.st37 3 rfl rfl rfl rfl rfl rfl rfl rfl rfl ?_)
    refine QE.nilrow 3 1 (QE.nilrow 3 1 ?_)
    exact QE.retc2 5 rv 29 (evC zeroEv.n (.slice none 0 0) (.slice none 0 0)) 37 (.int .i64 361) [_, _] rfl agg37 size37 rfl rfl rfl rfl (.cons_cons _ (.cons_cons _ (List.nil_sublist _))) ⟨_, rfl, Nat.zero_le _, Nat.zero_le _, none, 0, none, 0, rfl, rfl⟩
  · rw [hd]
    simp only [if_false, Bool.false_eq_true]
    repeat (first | refine WC.seq ?_ | refine WC.region ?_ | refine WL.move _ rfl (by decide) rfl ?_ | refine WL.assign _ rfl (by decide) rfl ?_ | refine WL.bin _ _ _ rfl (by decide) rfl rfl (fun _ => rfl) ?_ | refine WL.fd96_0 rfl (by decide) rfl ?_ | refine WL.ld68 0 rfl (by decide) rfl rfl rfl ?_)
    refine WL.call [] [] [pt rg] _ _ [.blk cg [pt rg, .slice none 0 0, .bool false] 96, .blk rv (evC zeroEv.n (.slice none 0 0) (.slice none 0 0)) 37, .blk g (evC e.n (.slice A6 e.nums.length c6) (.slice A27 e.mem.length c27)) 37, .row (.slice A6 e.nums.length c6) 3 1 e.nums.length (i64s e.nums), .row (.slice A27 e.mem.length c27) 3 1 e.mem.length (i64s e.mem)] (left_con rg c1 wk A1 b 0 hwk) rfl (by decide) rfl Try.func38 rfl rfl rfl rfl (List.perm_middle (l₁ := [_, _])) (fun _ _ => trivial) ?_
    rintro v H1 ⟨rfl, rfl⟩
    unfold rd
    simp only [List.cons_append, List.nil_append]
    repeat (first | refine WL.nil ?_ | with_reducible refine QE.then_n ?_ | refine WL.bin _ _ _ rfl (by decide) rfl rfl (fun _ => rfl) ?_ | refine WL.pick _ _ rfl (by decide) rfl rfl ?_)
    refine WC.cond_f (by show some (Value.bool (decide _)) = _; rw [decide_eq_false (by omega)]) ?_
    repeat (first | refine WC.seq ?_ | refine WC.region ?_ | refine WC.skip ?_ | refine WL.nil ?_ | with_reducible refine QE.then_n ?_ | refine WC.cond_f rfl ?_ | refine WL.move _ rfl (by decide) rfl ?_ | refine WL.bin _ _ _ rfl (by decide) rfl rfl (fun _ => rfl) ?_)
    refine WL.ld37 4 rfl (by decide) rfl rfl rfl rfl ?_
    repeat (first | refine WC.ret ?_ | refine WL.assign _ rfl (by decide) rfl ?_ | refine WL.st37 3 rfl rfl rfl rfl rfl rfl rfl rfl rfl ?_)
    exact QE.retc2 3 rv 29 (evC e.n (.slice A6 e.nums.length c6) (.slice A27 e.mem.length c27)) 37 (.int .i64 0) [_, _] rfl agg37 size37 rfl rfl rfl rfl (.cons _ (.cons _ (.cons _ (.cons _ (.cons _ (.refl _)))))) ⟨_, rfl, hle.1, hle.2, A6, c6, A27, c27, rfl, rfl⟩

theorem off_nil {B : Option Addr} : Off [] B := fun _ _ h => by obtain ⟨_, h, _⟩ := h; cases h
theorem permN (r g cg b : Ck) : (([cg, r] ++ [g]) ++ [b]).Perm [r, g, cg, b] := (show ([cg, r, g] ++ [b]).Perm ([r, g, cg] ++ [b]) from List.Perm.append_right [b] (List.perm_append_comm (l₁ := [cg]) (l₂ := [r, g])))
/-- An event that can be encoded: its lists are read, and stand. -/
def EvOk (w : World) (e : Ev) (A6 A27 : Option Addr) : Prop := EvRd w e A6 A27 ∧ (∀ ad, A6 = some ad → ad.block < w.heap.size) ∧ (∀ ad, A27 = some ad → ad.block < w.heap.size)
theorem EvOk.kept {E : Env} {w : World} {e : Ev} {A6 A27 : Option Addr} (h : EvOk E.w0 e A6 A27) (hk : Kept E w) (hF : E.F = fps []) : EvOk w e A6 A27 :=
  ⟨h.1.kept hk hF, fun ad had => Nat.lt_of_lt_of_le (h.2.1 ad had) hk.size, fun ad had => Nat.lt_of_lt_of_le (h.2.2 ad had) hk.size⟩
def encP (a : Ev) : Option (List Int) := if okE a = true ∧ (decP (wrE a)).1 = 0 ∧ sameE (decP (wrE a)).2 a = true then some (wrE a) else none
def encB (a : Ev) : List Int := match encP a with | some y => y | none => []
def encE (a : Ev) : Int := match encP a with | some y => 0 | none => 360
theorem byt_beB : ∀ (r : Nat) (x : Int), Byt (beB r x)
  | 0, _ => fun u h => by cases h
  | r + 1, x => fun u h => by
    rcases List.mem_cons.1 h with rfl | h
    · omega
    · exact byt_beB r _ u h
theorem byt_wr (fs : List Fd) (e : Ev) : Byt (wrF fs e) := by
  intro u hu
  obtain ⟨f, _, hf⟩ := List.mem_flatMap.1 hu
  cases f with
  | n j w k => exact byt_beB _ _ u hf
  | f j => simp only [wrD, List.mem_singleton] at hf; subst hf; split <;> omega
  | l j =>
    rcases List.mem_append.1 hf with hf | hf
    · exact byt_beB _ _ u hf
    · obtain ⟨x, _, hx⟩ := List.mem_flatMap.1 hf
      exact byt_beB _ _ u hx
theorem byt_wrE (e : Ev) : Byt (wrE e) := by
  unfold wrE
  split
  · exact byt_wr _ _
  · exact fun u h => by cases h

set_option maxHeartbeats 4000000 in
set_option maxRecDepth 100000 in
theorem encode_con (a : Ev) (A6 A27 : Option Addr) (c6 c27 : Nat) (ha : a.nums.length ≤ maxLen ∧ a.mem.length ≤ maxLen) :
    Con Try.prog 23 #[evV a A6 c6 A27 c27] [] (fun w => EvOk w a A6 A27) (fun v H' => ∃ A' c', v = .tuple #[.slice A' (encB a).length c', .int .i64 (encE a)] ∧ H' = [.row (.slice A' (encB a).length c') 5 1 (encB a).length (b8 (encB a))] ∧ (encB a).length ≤ 400) := by
  refine Con.intro Try.func23 rfl Try.ntmps23 rfl (fun w hR => ?_)
  unfold evV
  have hno : ∀ H : List Ck, ∀ w' : World, I ⟨w, fps []⟩ H w' → RdO w' H A6 a.nums ∧ RdO w' H A27 a.mem := fun H w' hI =>
    ⟨RdO.now (H1 := []) ⟨hR.1.1, off_nil, hR.2.1, ha.1⟩ rfl hI, RdO.now (H1 := []) ⟨hR.1.2, off_nil, hR.2.2, ha.2⟩ rfl hI⟩
  repeat (first | refine WC.seq ?_ | refine WC.region ?_)
  refine WL.box _ (evC a.n (.slice A6 a.nums.length c6) (.slice A27 a.mem.length c27)) rfl (by decide) rfl rfl (fun b1 => ?_)
  repeat (first | refine WC.seq ?_ | refine WC.region ?_ | refine WL.assign _ rfl (by decide) rfl ?_)
  refine WL.alloc (.agg #[.pointer none, .slice none 0 0, .bool false]) [.pointer none, .slice none 0 0, .bool false] rfl (by decide) (fun w => by kernel_rfl) rfl (fun cg => ?_)
  repeat (first | refine WC.seq ?_ | refine WC.region ?_ | refine WL.ld37 1 rfl (by decide) rfl rfl rfl rfl ?_)
  refine WL.alloc zeroA (evC zeroEv.n (.slice none 0 0) (.slice none 0 0)) rfl (by decide) zero37 rfl (fun g => ?_)
  repeat (first | refine WC.seq ?_ | refine WC.region ?_ | refine WL.st37 0 rfl rfl rfl rfl rfl rfl rfl rfl rfl ?_)
  refine WL.nilrow 5 1 ?_
  refine WL.perm ((carH cg (.w none 0 [] false) ++ [.blk g (evC a.n (.slice A6 a.nums.length c6) (.slice A27 a.mem.length c27)) 37]) ++ [.blk b1 (evC a.n (.slice A6 a.nums.length c6) (.slice A27 a.mem.length c27)) 37]) (permN _ _ _ _) ?_
  refine WL.call [] [] [pt cg, pt g] _ _ [.blk b1 (evC a.n (.slice A6 a.nums.length c6) (.slice A27 a.mem.length c27)) 37] (event_w none 0 [] a cg g A6 A27 c6 c27 ha.1 ha.2 (by show (0 : Nat) + 400 ≤ _; decide)) rfl (by decide) rfl Try.func59 rfl rfl rfl rfl (.refl _) (fun w' hI => ⟨((hno _ w' hI).1).sub (fun c hc => List.mem_append_left _ hc), ((hno _ w' hI).2).sub (fun c hc => List.mem_append_left _ hc)⟩) ?_
  rintro v H1 ⟨rfl, A1, c1, o, bd, rfl, hlo, hbd, hob⟩
  simp only [carH, List.cons_append, List.nil_append]
  simp only [List.length_nil, Nat.zero_add] at hlo
  cases bd
  · have hok : okE a = true := by
      cases h : okE a with
      | true => rfl
      | false => exact absurd (hbd.2 h) (by decide)
    have ho : o = wrE a := by simpa using hob rfl
    subst ho
    repeat (first | refine WC.seq ?_ | refine WC.region ?_ | refine WC.skip ?_ | refine WL.nil ?_ | with_reducible refine QE.then_n ?_ | refine WC.cond_f rfl ?_ | refine WL.fd96_1 rfl (by decide) rfl ?_ | refine WL.fd96_2 rfl (by decide) rfl ?_ | refine WL.ld4 0 rfl (by decide) rfl rfl rfl ?_ | refine WL.ld39 0 rfl (by decide) rfl rfl rfl ?_)
    refine WL.fact ((wrE a).length ≤ c1) (fun w hI => (row_reads hI (i := 1) rfl).1) (fun hc1 => ?_)
    refine WL.call [] [] [.slice A1 (wrE a).length c1] _ [] _ (decode_con A1 c1 (wrE a) hc1 (by omega) (byt_wrE a)) rfl (by decide) rfl Try.func48 rfl rfl rfl rfl (.refl _) (fun w hI => (row_reads hI (i := 1) rfl).2) ?_
    rintro v H1 ⟨ev, rfl, hx6, hx27, B6, k6, B27, k27, rfl, rfl⟩
    simp only [List.cons_append, List.nil_append]
    unfold evV
    repeat (first | refine WL.move _ rfl (by decide) rfl ?_ | refine WL.extract _ _ rfl (by decide) rfl (fun _ => rfl) ?_)
    obtain ⟨x, hx⟩ : ∃ x, decP (wrE a) = x := ⟨_, rfl⟩
    rw [hx] at hx6 hx27 ⊢
    obtain ⟨er, e⟩ := x
    dsimp only at hx6 hx27 ⊢
    refine WL.know (.agg (evC e.n (.slice B6 e.nums.length k6) (.slice B27 e.mem.length k27)).toArray) (s := 16) rfl rfl ?_
    refine WL.know (.int .i64 er) (s := 17) rfl rfl ?_
    refine WL.alloc zeroA (evC zeroEv.n (.slice none 0 0) (.slice none 0 0)) rfl (by decide) zero37 rfl (fun g2 => ?_)
    refine WL.st37 0 (cs' := evC e.n (.slice B6 e.nums.length k6) (.slice B27 e.mem.length k27)) rfl rfl rfl rfl rfl rfl rfl rfl rfl ?_
    repeat (first | refine WC.seq ?_ | refine WC.region ?_ | refine WL.move _ rfl (by decide) rfl ?_ | refine WL.assign _ rfl (by decide) rfl ?_ | refine WL.bin _ _ _ rfl (by decide) rfl rfl (fun _ => rfl) ?_)
    by_cases hd : er = 0
    · subst hd
      refine WL.know (.bool false) (s := 20) rfl rfl ?_
      refine WL.ld37 0 rfl (by decide) rfl rfl rfl rfl ?_
      refine WL.ld37 6 rfl (by decide) rfl rfl rfl rfl ?_
      refine WL.call [] [] [evV e B6 k6 B27 k27, evV a A6 c6 A27 c27] _ [] _ (sameE_con e a B6 B27 A6 A27 k6 k27 c6 c27 ⟨Nat.le_trans hx6 (by decide), Nat.le_trans hx27 (by decide)⟩ ha) rfl (by decide) rfl Try.func24 rfl rfl rfl rfl (.refl _) (fun w hI => ⟨⟨(row_reads hI (i := 1) rfl).2, (row_reads hI (i := 2) rfl).2⟩, hR.1.kept hI.kp rfl⟩) ?_
      rintro v H1 ⟨rfl, rfl⟩
      rw [List.nil_append]
      cases hs : sameE e a
      · have hE : encP a = none := by unfold encP; rw [hx]; simp [hs]
        repeat (first | refine WC.seq ?_ | refine WC.region ?_ | refine WC.ret ?_ | refine WL.nil ?_ | with_reducible refine QE.then_n ?_ | with_reducible refine QE.then_r ?_ | refine WC.cond_t rfl ?_ | refine WL.assign _ rfl (by decide) rfl ?_ | refine WL.un _ _ rfl (by decide) rfl (fun _ => rfl) ?_ | refine WL.pick _ _ rfl (by decide) rfl rfl ?_)
        refine QE.nilrow 5 1 ?_
        have e1 : encB a = [] := by unfold encB; rw [hE]
        have e2 : encE a = 360 := by unfold encE; rw [hE]
        refine QE.ret2 (.slice none 0 0) (.int .i64 360) [_] rfl rfl rfl (.cons_cons _ (List.nil_sublist _)) ⟨none, 0, by rw [e1, e2]; rfl, by rw [e1]; rfl, by rw [e1]; exact Nat.zero_le _⟩
      · have hE : encP a = some (wrE a) := by unfold encP; rw [hx]; simp [hs, hok]
        repeat (first | refine WC.seq ?_ | refine WC.region ?_ | refine WC.skip ?_ | refine WC.ret ?_ | refine WL.nil ?_ | with_reducible refine QE.then_n ?_ | refine WC.cond_f rfl ?_ | refine WL.assign _ rfl (by decide) rfl ?_ | refine WL.un _ _ rfl (by decide) rfl (fun _ => rfl) ?_ | refine WL.pick _ _ rfl (by decide) rfl rfl ?_ | refine WL.fd96_1 rfl (by decide) rfl ?_ | refine WL.ld39 3 rfl (by decide) rfl rfl rfl ?_)
        have e1 : encB a = wrE a := by unfold encB; rw [hE]
        have e2 : encE a = 0 := by unfold encE; rw [hE]
        refine QE.ret2 (.slice A1 (wrE a).length c1) (.int .i64 0) [.row (.slice A1 (wrE a).length c1) 5 1 (wrE a).length (b8 (wrE a))] rfl rfl rfl (.cons _ (.cons _ (.cons _ (.cons _ (.cons_cons _ (List.nil_sublist _)))))) ⟨A1, c1, by rw [e1, e2], by rw [e1], by rw [e1]; exact hlo⟩
    · refine WL.know (.bool true) (s := 20) rfl (by congr 1; simpa using hd) ?_
      have hE : encP a = none := by unfold encP; rw [hx]; simp [hd]
      repeat (first | refine WC.seq ?_ | refine WC.region ?_ | refine WC.ret ?_ | refine WL.nil ?_ | with_reducible refine QE.then_n ?_ | with_reducible refine QE.then_r ?_ | refine WC.cond_t rfl ?_ | refine WL.assign _ rfl (by decide) rfl ?_ | refine WL.off rfl (by decide) ?_ | refine WL.pick _ _ rfl (by decide) rfl rfl ?_)
      refine QE.nilrow 5 1 ?_
      have e1 : encB a = [] := by unfold encB; rw [hE]
      have e2 : encE a = 360 := by unfold encE; rw [hE]
      refine QE.ret2 (.slice none 0 0) (.int .i64 360) [_] rfl rfl rfl (.cons_cons _ (List.nil_sublist _)) ⟨none, 0, by rw [e1, e2]; rfl, by rw [e1]; rfl, by rw [e1]; exact Nat.zero_le _⟩
  · have hok : okE a = false := hbd.1 rfl
    have hE : encP a = none := by unfold encP; rw [hok]; simp
    repeat (first | refine WC.seq ?_ | refine WC.region ?_ | refine WC.ret ?_ | refine WL.nil ?_ | with_reducible refine QE.then_n ?_ | with_reducible refine QE.then_r ?_ | refine WC.cond_t rfl ?_ | refine WL.assign _ rfl (by decide) rfl ?_ | refine WL.fd96_2 rfl (by decide) rfl ?_ | refine WL.ld4 0 rfl (by decide) rfl rfl rfl ?_)
    refine QE.nilrow 5 1 ?_
    have e1 : encB a = [] := by unfold encB; rw [hE]
    have e2 : encE a = 360 := by unfold encE; rw [hE]
    refine QE.ret2 (.slice none 0 0) (.int .i64 360) [_] rfl rfl rfl (.cons_cons _ (List.nil_sublist _)) ⟨none, 0, by rw [e1, e2]; rfl, by rw [e1]; rfl, by rw [e1]; exact Nat.zero_le _⟩

set_option maxRecDepth 100000 in
theorem check_con (a : Ev) (A6 A27 : Option Addr) (c6 c27 : Nat) (ha : a.nums.length ≤ maxLen ∧ a.mem.length ≤ maxLen) : Con Try.prog 53 #[evV a A6 c6 A27 c27] [] (fun w => EvOk w a A6 A27) (same (.int .i64 (encE a)) []) := by
  refine Con.intro Try.func53 rfl Try.ntmps53 rfl (fun w hR => ?_)
  unfold evV
  repeat (first | refine WC.seq ?_ | refine WC.region ?_)
  refine WL.box _ (evC a.n (.slice A6 a.nums.length c6) (.slice A27 a.mem.length c27)) rfl (by decide) rfl rfl (fun b1 => ?_)
  repeat (first | refine WC.seq ?_ | refine WC.region ?_ | refine WL.assign _ rfl (by decide) rfl ?_ | refine WL.ld37 0 rfl (by decide) rfl rfl rfl rfl ?_)
  refine WL.call [] [] [evV a A6 c6 A27 c27] _ [] _ (encode_con a A6 A27 c6 c27 ha) rfl (by decide) rfl Try.func23 rfl rfl rfl rfl (.refl _) (fun w hI => hR.kept hI.kp rfl) ?_
  rintro v H1 ⟨A', c', rfl, rfl, _⟩
  repeat (first | refine WC.seq ?_ | refine WC.region ?_ | refine WC.ret ?_ | refine WL.move _ rfl (by decide) rfl ?_ | refine WL.assign _ rfl (by decide) rfl ?_ | refine WL.extract _ _ rfl (by decide) rfl (fun _ => rfl) ?_)
  exact QE.ret1 _ _ rfl rfl (List.nil_sublist _) ⟨rfl, rfl⟩
end Go.Proofs.Ytalafklnnohlgaa.Cod
