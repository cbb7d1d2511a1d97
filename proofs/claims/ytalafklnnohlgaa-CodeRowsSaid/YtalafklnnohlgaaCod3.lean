/- code's carrier: stops, and the functions that carry a fixed row of fields. Conditions: the bytes so far leave room. -/
import Derived.Test.YtalafklnnohlgaaCod2
namespace Go.Proofs.Ytalafklnnohlgaa.Cod
open Go.RowKit X Go.Proofs.YtalafklnnohlgaaW.PrintLast
open Oct hiding agg39 size39
set_option linter.unusedVariables false
set_option linter.unusedSimpArgs false

theorem con_mono {P : Program} {f : FuncId} {args : Array Value} {H1 : List Ck} {R : World → Prop} {C D : Value → List Ck → Prop} (h : Con P f args H1 R C) (k : ∀ v H, C v H → D v H) : Con P f args H1 R D := fun w a b c => (h w a b c).mono (by rintro e w' ⟨v, H, hc, he, hi⟩; exact ⟨v, H, k v H hc, he, hi⟩)
theorem con_pre {P : Program} {f : FuncId} {args : Array Value} {H1 : List Ck} {R S : World → Prop} {C : Value → List Ck → Prop} (h : Con P f args H1 R C) (k : ∀ w, S w → R w) : Con P f args H1 S C := fun w a b c => h w a b (k w c)
def EvP (fs : List Fd) (cg g : Nat) (st tt : Value) (s : Cs) (e : Ev) : Value → List Ck → Prop := fun r H' => r = .tuple #[] ∧ ∃ s' n', T fs s e s' ⟨n', e.nums, e.mem⟩ ∧ H' = carH cg s' ++ [.blk g (evC n' st tt) 37]
/-- A place of an event that is a number. -/
def Okj (k : IntKind) (j : Nat) : Prop := ∀ (n : Nat → Int) (st tt : Value), (evC n st tt)[j]? = some (.int k (n j)) ∧ ∀ v, (evC n st tt).set j (.int k v) = evC (upd n j v) st tt
theorem T.nil {s : Cs} {e : Ev} (hr : Cod.room 0 s) : T [] s e s e := by
  cases s with
  | w A c out bad => exact ⟨rfl, A, c, out, bad, rfl, Nat.le_refl _, by simp [okF], fun _ => by simp [wrF]⟩
  | r rg A c l wk er bad => exact ⟨wk, er, bad, rfl, hr, rfl⟩
theorem ev89 (s : Cs) (e : Ev) (st tt : Value) (cg g j W : Nat) (hW : W = 1 ∨ W = 2 ∨ W = 4 ∨ W = 8) (hj : Okj .i64 j) (hr : room 8 s) :
    Con Try.prog 89 #[pt cg, .int .i64 W, .pointer (some ⟨g, j, none⟩)] (carH cg s ++ [.blk g (evC e.n st tt) 37]) (fun _ => True) (EvP [.n j W .i64] cg g st tt s e) :=
  con_mono (one89 s cg g 37 j W hW _ _ (hj e.n st tt).1 hr) (by
    rintro r H ⟨rfl, s', v', ho, rfl⟩
    exact ⟨rfl, s', _, T_one (by omega) ho hr, by rw [(hj e.n st tt).2]⟩)
theorem ev83 (s : Cs) (e : Ev) (st tt : Value) (cg g j W : Nat) (hW : W = 1 ∨ W = 2 ∨ W = 4 ∨ W = 8) (hj : Okj .i64 j) (hr : room 8 s) :
    Con Try.prog 83 #[pt cg, .int .i64 W, .pointer (some ⟨g, j, none⟩)] (carH cg s ++ [.blk g (evC e.n st tt) 37]) (fun _ => True) (EvP [.n j W .i64] cg g st tt s e) :=
  con_mono (one83 s cg g 37 j W hW _ _ (hj e.n st tt).1 hr) (by
    rintro r H ⟨rfl, s', v', ho, rfl⟩
    exact ⟨rfl, s', _, T_one (by omega) ho hr, by rw [(hj e.n st tt).2]⟩)
theorem ev102 (s : Cs) (e : Ev) (st tt : Value) (cg g j W : Nat) (hW : W = 1 ∨ W = 2 ∨ W = 4 ∨ W = 8) (hj : Okj .u32 j) (hr : room 8 s) :
    Con Try.prog 102 #[pt cg, .int .i64 W, .pointer (some ⟨g, j, none⟩)] (carH cg s ++ [.blk g (evC e.n st tt) 37]) (fun _ => True) (EvP [.n j W .u32] cg g st tt s e) :=
  con_mono (one102 s cg g 37 j W hW _ _ (hj e.n st tt).1 hr) (by
    rintro r H ⟨rfl, s', v', ho, rfl⟩
    exact ⟨rfl, s', _, T_one (by omega) ho hr, by rw [(hj e.n st tt).2]⟩)
theorem smallP_T (st tt : Value) : ∀ (js : List Nat) (s : Cs) (e : Ev) (s' : Cs) (cs' : List Value), (∀ j ∈ js, Okj .i64 j) → room (8 * js.length) s → SmallP js s (evC e.n st tt) s' cs' → ∃ n', T (js.map (fun j => .n j 1 .i64)) s e s' ⟨n', e.nums, e.mem⟩ ∧ cs' = evC n' st tt := by
  intro js
  induction js with
  | nil => rintro s e s' cs' _ hr h; cases h; exact ⟨e.n, T.nil (room_le hr (Nat.zero_le _)), rfl⟩
  | cons j js ih =>
    rintro s e s' cs' hk hr h
    cases h with
    | @cons _ _ _ s1 _ _ _ v v1 hv ho hs =>
      have hj := hk j (by simp) e.n st tt
      rw [hj.1] at hv
      cases hv
      rw [hj.2] at hs
      have hr8 : room 8 s := room_le hr (by simp; omega)
      have t1 := T_one (e := e) (by decide) ho hr8
      obtain ⟨n', t2, rfl⟩ := ih s1 ⟨upd e.n j v1, e.nums, e.mem⟩ s' cs' (fun q hq => hk q (by simp [hq])) (room_one (by decide) ho (room_le hr (by simp; omega))) hs
      exact ⟨n', t1.comp t2, rfl⟩
theorem smallE (s : Cs) (e : Ev) (st tt : Value) (cg g gb : Nat) (js : List Nat) (hl : js.length ≤ 8) (hk : ∀ j ∈ js, Okj .i64 j) (hr : room (8 * js.length) s) :
    Con Try.prog 80 #[pt cg, .slice (some ⟨gb, 0, none⟩) js.length js.length] (carH cg s ++ [.blk g (evC e.n st tt) 37, .row (.slice (some ⟨gb, 0, none⟩) js.length js.length) 126 1 js.length (ptrs g js)]) (fun _ => True) (EvP (js.map (fun j => .n j 1 .i64)) cg g st tt s e) :=
  con_mono (small_con s cg g 37 gb _ js hl (fun j hj => ⟨_, (hk j hj e.n st tt).1⟩) hr) (by
    rintro r H ⟨rfl, s', cs', hs, rfl⟩
    obtain ⟨n', t, rfl⟩ := smallP_T st tt js s e s' cs' hk hr hs
    exact ⟨rfl, s', n', t, rfl⟩)
theorem okj_1 {j : Nat} (h : Okj .i64 j) : ∀ q ∈ [j], Okj .i64 q := by intro q hq; simp at hq; subst hq; exact h
theorem okj_2 {j i : Nat} (h : Okj .i64 j) (k : Okj .i64 i) : ∀ q ∈ [j, i], Okj .i64 q := by intro q hq; simp at hq; rcases hq with rfl | rfl; exact h; exact k
theorem permC {b r : Ck} (X : List Ck) : ((X ++ [b, r]) ++ []).Perm (r :: (X ++ [b])) := by
  rw [List.append_nil]
  exact (permB X).trans (.cons _ (X.perm_append_comm (l₂ := [b])).symm)

def stopB : Cs → Bool
  | .w A c out bad => bad
  | .r rg A c l wk er bad => bad || decide (er ≠ 0)
set_option maxRecDepth 100000 in
theorem stops_con (s : Cs) (cg : Nat) : Con Try.prog 58 #[pt cg] (carH cg s) (fun _ => True) (same (.bool (stopB s)) (carH cg s)) := by
  refine Con.intro Try.func58 rfl Try.ntmps58 rfl (fun w _ => ?_)
  cases s with
  | w A c out bad =>
    simp only [carH, pt, stopB]
    cases bad
    · repeat (first | refine WC.seq ?_ | refine WC.region ?_ | refine WC.ret ?_ | refine WL.move _ rfl (by decide) rfl ?_ | refine WL.assign _ rfl (by decide) rfl ?_ | refine WL.bin _ _ _ rfl (by decide) rfl rfl (fun _ => rfl) ?_ | refine WL.nilc _ rfl (by decide) rfl ?_ | refine WL.off rfl (by decide) ?_ | refine WL.pick _ _ rfl (by decide) rfl rfl ?_ | refine WL.fd96_0 rfl (by decide) rfl ?_ | refine WL.fd96_2 rfl (by decide) rfl ?_ | refine WL.ld4 0 rfl (by decide) rfl rfl rfl ?_ | refine WL.ld68 0 rfl (by decide) rfl rfl rfl ?_)
      exact QE.ret1 _ _ rfl rfl (.refl _) ⟨rfl, rfl⟩
    · repeat (first | refine WC.seq ?_ | refine WC.region ?_ | refine WC.ret ?_ | refine WL.move _ rfl (by decide) rfl ?_ | refine WL.assign _ rfl (by decide) rfl ?_ | refine WL.nilc _ rfl (by decide) rfl ?_ | refine WL.off rfl (by decide) ?_ | refine WL.pick _ _ rfl (by decide) rfl rfl ?_ | refine WL.offu rfl (by decide) ?_ | refine WL.fd96_2 rfl (by decide) rfl ?_ | refine WL.ld4 0 rfl (by decide) rfl rfl rfl ?_)
      exact QE.ret1 _ _ rfl rfl (.refl _) ⟨rfl, rfl⟩
  | r rg A c l wk er bad =>
    simp only [carH, pt, stopB]
    cases bad
    · repeat (first | refine WC.seq ?_ | refine WC.region ?_ | refine WL.move _ rfl (by decide) rfl ?_ | refine WL.assign _ rfl (by decide) rfl ?_ | refine WL.bin _ _ _ rfl (by decide) rfl rfl (fun _ => rfl) ?_ | refine WL.nilc _ rfl (by decide) rfl ?_ | refine WL.fd96_0 rfl (by decide) rfl ?_ | refine WL.fd96_2 rfl (by decide) rfl ?_ | refine WL.ld4 0 rfl (by decide) rfl rfl rfl ?_ | refine WL.ld68 0 rfl (by decide) rfl rfl rfl ?_)
      refine WL.call [] [] [pt rg] _ _ [.blk cg [pt rg, .slice none 0 0, .bool false] 96] (err_con rg c wk A l er) rfl (by decide) rfl Try.func37 rfl rfl rfl rfl (List.perm_append_comm (l₂ := [_])) (fun _ _ => trivial) ?_
      rintro v H1 ⟨rfl, rfl⟩
      unfold rd
      refine WL.perm _ (List.perm_append_comm (l₁ := [_])) ?_
      repeat (first | refine WC.ret ?_ | refine WL.assign _ rfl (by decide) rfl ?_ | refine WL.bin _ _ _ rfl (by decide) rfl rfl (fun _ => rfl) ?_ | refine WL.pick _ _ rfl (by decide) rfl rfl ?_)
      exact QE.ret1 _ _ rfl rfl (.refl _) ⟨by simp [bne, BEq.beq, decide_not], rfl⟩
    · repeat (first | refine WC.seq ?_ | refine WC.region ?_ | refine WC.ret ?_ | refine WL.move _ rfl (by decide) rfl ?_ | refine WL.assign _ rfl (by decide) rfl ?_ | refine WL.nilc _ rfl (by decide) rfl ?_ | refine WL.off rfl (by decide) ?_ | refine WL.pick _ _ rfl (by decide) rfl rfl ?_ | refine WL.offu rfl (by decide) ?_ | refine WL.fd96_2 rfl (by decide) rfl ?_ | refine WL.ld4 0 rfl (by decide) rfl rfl rfl ?_)
      exact QE.ret1 _ _ rfl rfl (.refl _) ⟨rfl, rfl⟩
set_option maxRecDepth 100000 in
theorem mask13_con (s : Cs) (e : Ev) (st tt : Value) (cg g : Nat) (hr : room 16 s) :
    Con Try.prog 100 #[pt cg, .pointer (some ⟨g, 13, none⟩)] (carH cg s ++ [.blk g (evC e.n st tt) 37]) (fun _ => True) (EvP [.n 13 4 .u32, .n 14 4 .u32] cg g st tt s e) := by
  refine Con.intro Try.func100 rfl Try.ntmps100 rfl (fun w _ => ?_)
  unfold pt
  repeat (first | refine WC.seq ?_ | refine WC.region ?_ | refine WL.move _ rfl (by decide) rfl ?_ | refine WL.nilc _ rfl (by decide) rfl ?_ | refine WL.fd31_0 rfl (by decide) rfl ?_)
  refine WL.call [] [] [pt cg, .int .i64 (4 : Nat), .pointer (some ⟨g, 13, none⟩)] _ _ [] (ev102 s e st tt cg g 13 4 (by decide) (fun _ _ _ => ⟨rfl, fun _ => rfl⟩) (room_le hr (by decide))) rfl (by decide) rfl Try.func102 rfl rfl rfl rfl (by rw [List.append_nil]) (fun _ _ => trivial) ?_
  rintro r H1 ⟨rfl, s1, n1, t1, rfl⟩
  rw [List.append_nil]
  have hr1 : room 8 s1 := t1.room hr
  repeat (first | refine WC.region ?_ | refine WL.move _ rfl (by decide) rfl ?_ | refine WL.nilc _ rfl (by decide) rfl ?_ | refine WL.fd31_1 rfl (by decide) rfl ?_)
  refine WL.call [] [] [pt cg, .int .i64 (4 : Nat), .pointer (some ⟨g, 14, none⟩)] _ _ [] (ev102 s1 ⟨n1, e.nums, e.mem⟩ st tt cg g 14 4 (by decide) (fun _ _ _ => ⟨rfl, fun _ => rfl⟩) (room_le hr1 (by decide))) rfl (by decide) rfl Try.func102 rfl rfl rfl rfl (by rw [List.append_nil]) (fun _ _ => trivial) ?_
  rintro r H1 ⟨rfl, s2, n2, t2, rfl⟩
  rw [List.append_nil]
  have hr2 : room 0 s2 := t2.room hr1
  repeat (refine WL.nil ?_)
  exact QE.end0 _ rfl (.refl _) ⟨rfl, s2, n2, (t1.comp t2), rfl⟩
set_option maxRecDepth 100000 in
theorem mask24_con (s : Cs) (e : Ev) (st tt : Value) (cg g : Nat) (hr : room 16 s) :
    Con Try.prog 100 #[pt cg, .pointer (some ⟨g, 24, none⟩)] (carH cg s ++ [.blk g (evC e.n st tt) 37]) (fun _ => True) (EvP [.n 24 4 .u32, .n 25 4 .u32] cg g st tt s e) := by
  refine Con.intro Try.func100 rfl Try.ntmps100 rfl (fun w _ => ?_)
  unfold pt
  repeat (first | refine WC.seq ?_ | refine WC.region ?_ | refine WL.move _ rfl (by decide) rfl ?_ | refine WL.nilc _ rfl (by decide) rfl ?_ | refine WL.fd31_0 rfl (by decide) rfl ?_)
  refine WL.call [] [] [pt cg, .int .i64 (4 : Nat), .pointer (some ⟨g, 24, none⟩)] _ _ [] (ev102 s e st tt cg g 24 4 (by decide) (fun _ _ _ => ⟨rfl, fun _ => rfl⟩) (room_le hr (by decide))) rfl (by decide) rfl Try.func102 rfl rfl rfl rfl (by rw [List.append_nil]) (fun _ _ => trivial) ?_
  rintro r H1 ⟨rfl, s1, n1, t1, rfl⟩
  rw [List.append_nil]
  have hr1 : room 8 s1 := t1.room hr
  repeat (first | refine WC.region ?_ | refine WL.move _ rfl (by decide) rfl ?_ | refine WL.nilc _ rfl (by decide) rfl ?_ | refine WL.fd31_1 rfl (by decide) rfl ?_)
  refine WL.call [] [] [pt cg, .int .i64 (4 : Nat), .pointer (some ⟨g, 25, none⟩)] _ _ [] (ev102 s1 ⟨n1, e.nums, e.mem⟩ st tt cg g 25 4 (by decide) (fun _ _ _ => ⟨rfl, fun _ => rfl⟩) (room_le hr1 (by decide))) rfl (by decide) rfl Try.func102 rfl rfl rfl rfl (by rw [List.append_nil]) (fun _ _ => trivial) ?_
  rintro r H1 ⟨rfl, s2, n2, t2, rfl⟩
  rw [List.append_nil]
  have hr2 : room 0 s2 := t2.room hr1
  repeat (refine WL.nil ?_)
  exact QE.end0 _ rfl (.refl _) ⟨rfl, s2, n2, (t1.comp t2), rfl⟩
set_option maxRecDepth 100000 in
theorem vcpu_con (s : Cs) (e : Ev) (st tt : Value) (cg g : Nat) (hr : room 8 s) :
    Con Try.prog 98 #[pt cg, .pointer (some ⟨g, 1, none⟩)] (carH cg s ++ [.blk g (evC e.n st tt) 37]) (fun _ => True) (EvP [.n 2 1 .i64] cg g st tt s e) := by
  refine Con.intro Try.func98 rfl Try.ntmps98 rfl (fun w _ => ?_)
  unfold pt
  repeat (first | refine WC.region ?_ | refine WL.move _ rfl (by decide) rfl ?_ | refine WL.nilc _ rfl (by decide) rfl ?_ | refine WL.fd33_1 rfl (by decide) rfl ?_)
  refine WL.buildS 1 126 1 [(0, .pointer (some ⟨g, 2, none⟩))] (ptrs g [2]) rfl (by decide) rfl rfl rfl (fun w => by kernel_rfl) (fun gb => ?_)
  skip
  refine WL.call [] [] [pt cg, .slice (some ⟨gb, 0, none⟩) 1 1] _ _ [] (smallE s e st tt cg g gb [2] (by decide) (okj_1 (fun _ _ _ => ⟨rfl, fun _ => rfl⟩)) (room_le hr (by decide))) rfl (by decide) rfl Try.func80 rfl rfl rfl rfl (permC _) (fun _ _ => trivial) ?_
  rintro r H1 ⟨rfl, s1, n1, t1, rfl⟩
  rw [List.append_nil]
  have hr1 : room 0 s1 := t1.room hr
  repeat (refine WL.nil ?_)
  exact QE.end0 _ rfl (.refl _) ⟨rfl, s1, n1, t1, rfl⟩
set_option maxRecDepth 100000 in
theorem port_con (s : Cs) (e : Ev) (st tt : Value) (cg g : Nat) (hr : room 8 s) :
    Con Try.prog 99 #[pt cg, .pointer (some ⟨g, 1, none⟩)] (carH cg s ++ [.blk g (evC e.n st tt) 37]) (fun _ => True) (EvP [.n 3 1 .i64] cg g st tt s e) := by
  refine Con.intro Try.func99 rfl Try.ntmps99 rfl (fun w _ => ?_)
  unfold pt
  repeat (first | refine WC.region ?_ | refine WL.move _ rfl (by decide) rfl ?_ | refine WL.nilc _ rfl (by decide) rfl ?_ | refine WL.fd33_2 rfl (by decide) rfl ?_)
  refine WL.buildS 1 126 1 [(0, .pointer (some ⟨g, 3, none⟩))] (ptrs g [3]) rfl (by decide) rfl rfl rfl (fun w => by kernel_rfl) (fun gb => ?_)
  skip
  refine WL.call [] [] [pt cg, .slice (some ⟨gb, 0, none⟩) 1 1] _ _ [] (smallE s e st tt cg g gb [3] (by decide) (okj_1 (fun _ _ _ => ⟨rfl, fun _ => rfl⟩)) (room_le hr (by decide))) rfl (by decide) rfl Try.func80 rfl rfl rfl rfl (permC _) (fun _ _ => trivial) ?_
  rintro r H1 ⟨rfl, s1, n1, t1, rfl⟩
  rw [List.append_nil]
  have hr1 : room 0 s1 := t1.room hr
  repeat (refine WL.nil ?_)
  exact QE.end0 _ rfl (.refl _) ⟨rfl, s1, n1, t1, rfl⟩
set_option maxRecDepth 100000 in
theorem create_con (s : Cs) (e : Ev) (st tt : Value) (cg g : Nat) (hr : room 32 s) :
    Con Try.prog 90 #[pt cg, .pointer (some ⟨g, 1, none⟩)] (carH cg s ++ [.blk g (evC e.n st tt) 37]) (fun _ => True) (EvP [.n 9 1 .i64, .n 10 2 .i64, .n 11 2 .i64, .n 12 1 .i64] cg g st tt s e) := by
  refine Con.intro Try.func90 rfl Try.ntmps90 rfl (fun w _ => ?_)
  unfold pt
  repeat (first | refine WC.seq ?_ | refine WC.region ?_ | refine WL.move _ rfl (by decide) rfl ?_ | refine WL.nilc _ rfl (by decide) rfl ?_ | refine WL.fd27_0 rfl (by decide) rfl ?_ | refine WL.fd33_8 rfl (by decide) rfl ?_)
  refine WL.buildS 1 126 1 [(0, .pointer (some ⟨g, 9, none⟩))] (ptrs g [9]) rfl (by decide) rfl rfl rfl (fun w => by kernel_rfl) (fun gb => ?_)
  skip
  refine WL.call [] [] [pt cg, .slice (some ⟨gb, 0, none⟩) 1 1] _ _ [] (smallE s e st tt cg g gb [9] (by decide) (okj_1 (fun _ _ _ => ⟨rfl, fun _ => rfl⟩)) (room_le hr (by decide))) rfl (by decide) rfl Try.func80 rfl rfl rfl rfl (permC _) (fun _ _ => trivial) ?_
  rintro r H1 ⟨rfl, s1, n1, t1, rfl⟩
  rw [List.append_nil]
  have hr1 : room 24 s1 := t1.room hr
  repeat (first | refine WC.seq ?_ | refine WC.region ?_ | refine WL.move _ rfl (by decide) rfl ?_ | refine WL.nilc _ rfl (by decide) rfl ?_ | refine WL.fd27_1 rfl (by decide) rfl ?_ | refine WL.fd33_8 rfl (by decide) rfl ?_)
  refine WL.call [] [] [pt cg, .int .i64 (2 : Nat), .pointer (some ⟨g, 10, none⟩)] _ _ [] (ev89 s1 ⟨n1, e.nums, e.mem⟩ st tt cg g 10 2 (by decide) (fun _ _ _ => ⟨rfl, fun _ => rfl⟩) (room_le hr1 (by decide))) rfl (by decide) rfl Try.func89 rfl rfl rfl rfl (by rw [List.append_nil]) (fun _ _ => trivial) ?_
  rintro r H1 ⟨rfl, s2, n2, t2, rfl⟩
  rw [List.append_nil]
  have hr2 : room 16 s2 := t2.room hr1
  repeat (first | refine WC.seq ?_ | refine WC.region ?_ | refine WL.move _ rfl (by decide) rfl ?_ | refine WL.nilc _ rfl (by decide) rfl ?_ | refine WL.fd27_2 rfl (by decide) rfl ?_ | refine WL.fd33_8 rfl (by decide) rfl ?_)
  refine WL.call [] [] [pt cg, .int .i64 (2 : Nat), .pointer (some ⟨g, 11, none⟩)] _ _ [] (ev89 s2 ⟨n2, e.nums, e.mem⟩ st tt cg g 11 2 (by decide) (fun _ _ _ => ⟨rfl, fun _ => rfl⟩) (room_le hr2 (by decide))) rfl (by decide) rfl Try.func89 rfl rfl rfl rfl (by rw [List.append_nil]) (fun _ _ => trivial) ?_
  rintro r H1 ⟨rfl, s3, n3, t3, rfl⟩
  rw [List.append_nil]
  have hr3 : room 8 s3 := t3.room hr2
  repeat (first | refine WC.region ?_ | refine WL.move _ rfl (by decide) rfl ?_ | refine WL.nilc _ rfl (by decide) rfl ?_ | refine WL.fd27_3 rfl (by decide) rfl ?_ | refine WL.fd33_8 rfl (by decide) rfl ?_)
  refine WL.buildS 1 126 1 [(0, .pointer (some ⟨g, 12, none⟩))] (ptrs g [12]) rfl (by decide) rfl rfl rfl (fun w => by kernel_rfl) (fun gb => ?_)
  skip
  refine WL.call [] [] [pt cg, .slice (some ⟨gb, 0, none⟩) 1 1] _ _ [] (smallE s3 ⟨n3, e.nums, e.mem⟩ st tt cg g gb [12] (by decide) (okj_1 (fun _ _ _ => ⟨rfl, fun _ => rfl⟩)) (room_le hr3 (by decide))) rfl (by decide) rfl Try.func80 rfl rfl rfl rfl (permC _) (fun _ _ => trivial) ?_
  rintro r H1 ⟨rfl, s4, n4, t4, rfl⟩
  rw [List.append_nil]
  have hr4 : room 0 s4 := t4.room hr3
  repeat (refine WL.nil ?_)
  exact QE.end0 _ rfl (.refl _) ⟨rfl, s4, n4, (((t1.comp t2).comp t3).comp t4), rfl⟩
set_option maxRecDepth 100000 in
theorem destroy_con (s : Cs) (e : Ev) (st tt : Value) (cg g : Nat) (hr : room 8 s) :
    Con Try.prog 91 #[pt cg, .pointer (some ⟨g, 1, none⟩)] (carH cg s ++ [.blk g (evC e.n st tt) 37]) (fun _ => True) (EvP [.n 9 1 .i64] cg g st tt s e) := by
  refine Con.intro Try.func91 rfl Try.ntmps91 rfl (fun w _ => ?_)
  unfold pt
  repeat (first | refine WC.region ?_ | refine WL.move _ rfl (by decide) rfl ?_ | refine WL.nilc _ rfl (by decide) rfl ?_ | refine WL.fd27_0 rfl (by decide) rfl ?_ | refine WL.fd33_8 rfl (by decide) rfl ?_)
  refine WL.buildS 1 126 1 [(0, .pointer (some ⟨g, 9, none⟩))] (ptrs g [9]) rfl (by decide) rfl rfl rfl (fun w => by kernel_rfl) (fun gb => ?_)
  skip
  refine WL.call [] [] [pt cg, .slice (some ⟨gb, 0, none⟩) 1 1] _ _ [] (smallE s e st tt cg g gb [9] (by decide) (okj_1 (fun _ _ _ => ⟨rfl, fun _ => rfl⟩)) (room_le hr (by decide))) rfl (by decide) rfl Try.func80 rfl rfl rfl rfl (permC _) (fun _ _ => trivial) ?_
  rintro r H1 ⟨rfl, s1, n1, t1, rfl⟩
  rw [List.append_nil]
  have hr1 : room 0 s1 := t1.room hr
  repeat (refine WL.nil ?_)
  exact QE.end0 _ rfl (.refl _) ⟨rfl, s1, n1, t1, rfl⟩
set_option maxRecDepth 100000 in
theorem add_con (s : Cs) (e : Ev) (st tt : Value) (cg g : Nat) (hr : room 24 s) :
    Con Try.prog 92 #[pt cg, .pointer (some ⟨g, 1, none⟩)] (carH cg s ++ [.blk g (evC e.n st tt) 37]) (fun _ => True) (EvP [.n 9 1 .i64, .n 13 4 .u32, .n 14 4 .u32] cg g st tt s e) := by
  refine Con.intro Try.func92 rfl Try.ntmps92 rfl (fun w _ => ?_)
  unfold pt
  repeat (first | refine WC.seq ?_ | refine WC.region ?_ | refine WL.move _ rfl (by decide) rfl ?_ | refine WL.nilc _ rfl (by decide) rfl ?_ | refine WL.fd27_0 rfl (by decide) rfl ?_ | refine WL.fd33_8 rfl (by decide) rfl ?_)
  refine WL.buildS 1 126 1 [(0, .pointer (some ⟨g, 9, none⟩))] (ptrs g [9]) rfl (by decide) rfl rfl rfl (fun w => by kernel_rfl) (fun gb => ?_)
  skip
  refine WL.call [] [] [pt cg, .slice (some ⟨gb, 0, none⟩) 1 1] _ _ [] (smallE s e st tt cg g gb [9] (by decide) (okj_1 (fun _ _ _ => ⟨rfl, fun _ => rfl⟩)) (room_le hr (by decide))) rfl (by decide) rfl Try.func80 rfl rfl rfl rfl (permC _) (fun _ _ => trivial) ?_
  rintro r H1 ⟨rfl, s1, n1, t1, rfl⟩
  rw [List.append_nil]
  have hr1 : room 16 s1 := t1.room hr
  repeat (first | refine WC.region ?_ | refine WL.move _ rfl (by decide) rfl ?_ | refine WL.nilc _ rfl (by decide) rfl ?_ | refine WL.fd33_9 rfl (by decide) rfl ?_)
  refine WL.call [] [] [pt cg, .pointer (some ⟨g, 13, none⟩)] _ _ [] (mask13_con s1 ⟨n1, e.nums, e.mem⟩ st tt cg g (room_le hr1 (by decide))) rfl (by decide) rfl Try.func100 rfl rfl rfl rfl (by rw [List.append_nil]) (fun _ _ => trivial) ?_
  rintro r H1 ⟨rfl, s2, n2, t2, rfl⟩
  rw [List.append_nil]
  have hr2 : room 0 s2 := t2.room hr1
  repeat (refine WL.nil ?_)
  exact QE.end0 _ rfl (.refl _) ⟨rfl, s2, n2, (t1.comp t2), rfl⟩
set_option maxRecDepth 100000 in
theorem link_con (s : Cs) (e : Ev) (st tt : Value) (cg g : Nat) (hr : room 16 s) :
    Con Try.prog 94 #[pt cg, .pointer (some ⟨g, 1, none⟩)] (carH cg s ++ [.blk g (evC e.n st tt) 37]) (fun _ => True) (EvP [.n 3 1 .i64, .n 4 1 .i64] cg g st tt s e) := by
  refine Con.intro Try.func94 rfl Try.ntmps94 rfl (fun w _ => ?_)
  unfold pt
  skip
  refine WC.draw 9 #[false, false, false, false, false, false, false, false, false] [] [] (by kernel_rfl) rfl rfl (by repeat (first | exact List.Sublist.refl _ | exact List.nil_sublist _ | refine List.Sublist.cons_cons _ ?_ | refine List.Sublist.cons _ ?_)) ?_
  refine WA.move 0 #[true, false, false, false, false, false, false, false, false] _ rfl rfl rfl (by decide) (by kernel_rfl) (by repeat (first | with_reducible refine Qp.then ?_ | with_reducible refine Qp.blk ?_ | with_reducible exact Qp.body)) ?_
  refine WA.move 1 #[true, true, false, false, false, false, false, false, false] _ rfl rfl rfl (by decide) (by kernel_rfl) (by repeat (first | with_reducible refine Qp.then ?_ | with_reducible refine Qp.blk ?_ | with_reducible exact Qp.body)) ?_
  refine WA.nilc 2 #[true, true, true, false, false, false, false, false, false] _ rfl rfl rfl (by decide) (by kernel_rfl) (by repeat (first | with_reducible refine Qp.then ?_ | with_reducible refine Qp.blk ?_ | with_reducible exact Qp.body)) ?_
  refine WA.faddr 3 #[true, true, true, true, false, false, false, false, false] _ _ rfl (fa33_2 _ _) rfl rfl (by decide) (by kernel_rfl) (by repeat (first | with_reducible refine Qp.then ?_ | with_reducible refine Qp.blk ?_ | with_reducible exact Qp.body)) ?_
  refine WA.move 4 #[true, true, true, true, true, false, false, false, false] _ rfl rfl rfl (by decide) (by kernel_rfl) (by repeat (first | with_reducible refine Qp.then ?_ | with_reducible refine Qp.blk ?_ | with_reducible exact Qp.body)) ?_
  refine WA.nilc 5 #[true, true, true, true, true, true, false, false, false] _ rfl rfl rfl (by decide) (by kernel_rfl) (by repeat (first | with_reducible refine Qp.then ?_ | with_reducible refine Qp.blk ?_ | with_reducible exact Qp.body)) ?_
  refine WA.faddr 6 #[true, true, true, true, true, true, true, false, false] _ _ rfl (fa33_3 _ _) rfl rfl (by decide) (by kernel_rfl) (by repeat (first | with_reducible refine Qp.then ?_ | with_reducible refine Qp.blk ?_ | with_reducible exact Qp.body)) ?_
  refine WA.buildS 7 #[true, true, true, true, true, true, true, true, false] 2 126 1 [(0, .pointer (some ⟨g, 3, none⟩)), (1, .pointer (some ⟨g, 4, none⟩))] (ptrs g [3, 4]) rfl rfl (by decide) (by kernel_rfl) rfl (by repeat (first | exact List.Sublist.refl _ | exact List.nil_sublist _ | refine List.Sublist.cons_cons _ ?_ | refine List.Sublist.cons _ ?_)) rfl rfl rfl (fun w => by kernel_rfl) (fun gb => ?_)
  refine WA.call 8 #[true, true, true, true, true, true, true, true, true] [] [] [pt cg, .slice (some ⟨gb, 0, none⟩) 2 2] _ _ [] (smallE s e st tt cg g gb [3, 4] (by decide) (okj_2 (fun _ _ _ => ⟨rfl, fun _ => rfl⟩) (fun _ _ _ => ⟨rfl, fun _ => rfl⟩)) (room_le hr (by decide))) rfl rfl (by decide) (by kernel_rfl) rfl rfl Try.func80 rfl rfl rfl rfl (permC _) (fun _ _ => trivial) ?_
  rintro r H1 ⟨rfl, s1, n1, t1, rfl⟩
  rw [List.append_nil]
  refine ⟨List.nil_sublist _, ?_⟩
  refine WA.done (by kernel_rfl) ?_
  have hr1 : room 0 s1 := t1.room hr
  skip
  exact QE.end0 _ rfl (.refl _) ⟨rfl, s1, n1, t1, rfl⟩
set_option maxRecDepth 100000 in
theorem bind_con (s : Cs) (e : Ev) (st tt : Value) (cg g : Nat) (hr : room 16 s) :
    Con Try.prog 96 #[pt cg, .pointer (some ⟨g, 1, none⟩)] (carH cg s ++ [.blk g (evC e.n st tt) 37]) (fun _ => True) (EvP [.n 3 1 .i64, .n 2 1 .i64] cg g st tt s e) := by
  refine Con.intro Try.func96 rfl Try.ntmps96 rfl (fun w _ => ?_)
  unfold pt
  skip
  refine WC.draw 9 #[false, false, false, false, false, false, false, false, false] [] [] (by kernel_rfl) rfl rfl (by repeat (first | exact List.Sublist.refl _ | exact List.nil_sublist _ | refine List.Sublist.cons_cons _ ?_ | refine List.Sublist.cons _ ?_)) ?_
  refine WA.move 0 #[true, false, false, false, false, false, false, false, false] _ rfl rfl rfl (by decide) (by kernel_rfl) (by repeat (first | with_reducible refine Qp.then ?_ | with_reducible refine Qp.blk ?_ | with_reducible exact Qp.body)) ?_
  refine WA.move 1 #[true, true, false, false, false, false, false, false, false] _ rfl rfl rfl (by decide) (by kernel_rfl) (by repeat (first | with_reducible refine Qp.then ?_ | with_reducible refine Qp.blk ?_ | with_reducible exact Qp.body)) ?_
  refine WA.nilc 2 #[true, true, true, false, false, false, false, false, false] _ rfl rfl rfl (by decide) (by kernel_rfl) (by repeat (first | with_reducible refine Qp.then ?_ | with_reducible refine Qp.blk ?_ | with_reducible exact Qp.body)) ?_
  refine WA.faddr 3 #[true, true, true, true, false, false, false, false, false] _ _ rfl (fa33_2 _ _) rfl rfl (by decide) (by kernel_rfl) (by repeat (first | with_reducible refine Qp.then ?_ | with_reducible refine Qp.blk ?_ | with_reducible exact Qp.body)) ?_
  refine WA.move 4 #[true, true, true, true, true, false, false, false, false] _ rfl rfl rfl (by decide) (by kernel_rfl) (by repeat (first | with_reducible refine Qp.then ?_ | with_reducible refine Qp.blk ?_ | with_reducible exact Qp.body)) ?_
  refine WA.nilc 5 #[true, true, true, true, true, true, false, false, false] _ rfl rfl rfl (by decide) (by kernel_rfl) (by repeat (first | with_reducible refine Qp.then ?_ | with_reducible refine Qp.blk ?_ | with_reducible exact Qp.body)) ?_
  refine WA.faddr 6 #[true, true, true, true, true, true, true, false, false] _ _ rfl (fa33_1 _ _) rfl rfl (by decide) (by kernel_rfl) (by repeat (first | with_reducible refine Qp.then ?_ | with_reducible refine Qp.blk ?_ | with_reducible exact Qp.body)) ?_
  refine WA.buildS 7 #[true, true, true, true, true, true, true, true, false] 2 126 1 [(0, .pointer (some ⟨g, 3, none⟩)), (1, .pointer (some ⟨g, 2, none⟩))] (ptrs g [3, 2]) rfl rfl (by decide) (by kernel_rfl) rfl (by repeat (first | exact List.Sublist.refl _ | exact List.nil_sublist _ | refine List.Sublist.cons_cons _ ?_ | refine List.Sublist.cons _ ?_)) rfl rfl rfl (fun w => by kernel_rfl) (fun gb => ?_)
  refine WA.call 8 #[true, true, true, true, true, true, true, true, true] [] [] [pt cg, .slice (some ⟨gb, 0, none⟩) 2 2] _ _ [] (smallE s e st tt cg g gb [3, 2] (by decide) (okj_2 (fun _ _ _ => ⟨rfl, fun _ => rfl⟩) (fun _ _ _ => ⟨rfl, fun _ => rfl⟩)) (room_le hr (by decide))) rfl rfl (by decide) (by kernel_rfl) rfl rfl Try.func80 rfl rfl rfl rfl (permC _) (fun _ _ => trivial) ?_
  rintro r H1 ⟨rfl, s1, n1, t1, rfl⟩
  rw [List.append_nil]
  refine ⟨List.nil_sublist _, ?_⟩
  refine WA.done (by kernel_rfl) ?_
  have hr1 : room 0 s1 := t1.room hr
  skip
  exact QE.end0 _ rfl (.refl _) ⟨rfl, s1, n1, t1, rfl⟩
set_option maxRecDepth 100000 in
theorem start_con (s : Cs) (e : Ev) (st tt : Value) (cg g : Nat) (hr : room 32 s) :
    Con Try.prog 97 #[pt cg, .pointer (some ⟨g, 1, none⟩)] (carH cg s ++ [.blk g (evC e.n st tt) 37]) (fun _ => True) (EvP [.n 2 1 .i64, .n 3 1 .i64, .n 8 8 .i64, .n 7 8 .i64] cg g st tt s e) := by
  refine Con.intro Try.func97 rfl Try.ntmps97 rfl (fun w _ => ?_)
  unfold pt
  repeat (refine WC.seq ?_)
  refine WC.draw 9 #[false, false, false, false, false, false, false, false, false] [] [] (by kernel_rfl) rfl rfl (by repeat (first | exact List.Sublist.refl _ | exact List.nil_sublist _ | refine List.Sublist.cons_cons _ ?_ | refine List.Sublist.cons _ ?_)) ?_
  refine WA.move 0 #[true, false, false, false, false, false, false, false, false] _ rfl rfl rfl (by decide) (by kernel_rfl) (by repeat (first | with_reducible refine Qp.then ?_ | with_reducible refine Qp.blk ?_ | with_reducible exact Qp.body)) ?_
  refine WA.move 1 #[true, true, false, false, false, false, false, false, false] _ rfl rfl rfl (by decide) (by kernel_rfl) (by repeat (first | with_reducible refine Qp.then ?_ | with_reducible refine Qp.blk ?_ | with_reducible exact Qp.body)) ?_
  refine WA.nilc 2 #[true, true, true, false, false, false, false, false, false] _ rfl rfl rfl (by decide) (by kernel_rfl) (by repeat (first | with_reducible refine Qp.then ?_ | with_reducible refine Qp.blk ?_ | with_reducible exact Qp.body)) ?_
  refine WA.faddr 3 #[true, true, true, true, false, false, false, false, false] _ _ rfl (fa33_1 _ _) rfl rfl (by decide) (by kernel_rfl) (by repeat (first | with_reducible refine Qp.then ?_ | with_reducible refine Qp.blk ?_ | with_reducible exact Qp.body)) ?_
  refine WA.move 4 #[true, true, true, true, true, false, false, false, false] _ rfl rfl rfl (by decide) (by kernel_rfl) (by repeat (first | with_reducible refine Qp.then ?_ | with_reducible refine Qp.blk ?_ | with_reducible exact Qp.body)) ?_
  refine WA.nilc 5 #[true, true, true, true, true, true, false, false, false] _ rfl rfl rfl (by decide) (by kernel_rfl) (by repeat (first | with_reducible refine Qp.then ?_ | with_reducible refine Qp.blk ?_ | with_reducible exact Qp.body)) ?_
  refine WA.faddr 6 #[true, true, true, true, true, true, true, false, false] _ _ rfl (fa33_2 _ _) rfl rfl (by decide) (by kernel_rfl) (by repeat (first | with_reducible refine Qp.then ?_ | with_reducible refine Qp.blk ?_ | with_reducible exact Qp.body)) ?_
  refine WA.buildS 7 #[true, true, true, true, true, true, true, true, false] 2 126 1 [(0, .pointer (some ⟨g, 2, none⟩)), (1, .pointer (some ⟨g, 3, none⟩))] (ptrs g [2, 3]) rfl rfl (by decide) (by kernel_rfl) rfl (by repeat (first | exact List.Sublist.refl _ | exact List.nil_sublist _ | refine List.Sublist.cons_cons _ ?_ | refine List.Sublist.cons _ ?_)) rfl rfl rfl (fun w => by kernel_rfl) (fun gb => ?_)
  refine WA.call 8 #[true, true, true, true, true, true, true, true, true] [] [] [pt cg, .slice (some ⟨gb, 0, none⟩) 2 2] _ _ [] (smallE s e st tt cg g gb [2, 3] (by decide) (okj_2 (fun _ _ _ => ⟨rfl, fun _ => rfl⟩) (fun _ _ _ => ⟨rfl, fun _ => rfl⟩)) (room_le hr (by decide))) rfl rfl (by decide) (by kernel_rfl) rfl rfl Try.func80 rfl rfl rfl rfl (permC _) (fun _ _ => trivial) ?_
  rintro r H1 ⟨rfl, s1, n1, t1, rfl⟩
  rw [List.append_nil]
  refine ⟨List.nil_sublist _, ?_⟩
  refine WA.done (by kernel_rfl) ?_
  have hr1 : room 16 s1 := t1.room hr
  repeat (first | refine WC.seq ?_ | refine WC.region ?_ | refine WL.move _ rfl (by decide) rfl ?_ | refine WL.nilc _ rfl (by decide) rfl ?_ | refine WL.fd33_7 rfl (by decide) rfl ?_)
  refine WL.call [] [] [pt cg, .int .i64 (8 : Nat), .pointer (some ⟨g, 8, none⟩)] _ _ [] (ev83 s1 ⟨n1, e.nums, e.mem⟩ st tt cg g 8 8 (by decide) (fun _ _ _ => ⟨rfl, fun _ => rfl⟩) (room_le hr1 (by decide))) rfl (by decide) rfl Try.func83 rfl rfl rfl rfl (by rw [List.append_nil]) (fun _ _ => trivial) ?_
  rintro r H1 ⟨rfl, s2, n2, t2, rfl⟩
  rw [List.append_nil]
  have hr2 : room 8 s2 := t2.room hr1
  repeat (first | refine WC.region ?_ | refine WL.move _ rfl (by decide) rfl ?_ | refine WL.nilc _ rfl (by decide) rfl ?_ | refine WL.fd33_6 rfl (by decide) rfl ?_)
  refine WL.call [] [] [pt cg, .int .i64 (8 : Nat), .pointer (some ⟨g, 7, none⟩)] _ _ [] (ev83 s2 ⟨n2, e.nums, e.mem⟩ st tt cg g 7 8 (by decide) (fun _ _ _ => ⟨rfl, fun _ => rfl⟩) (room_le hr2 (by decide))) rfl (by decide) rfl Try.func83 rfl rfl rfl rfl (by rw [List.append_nil]) (fun _ _ => trivial) ?_
  rintro r H1 ⟨rfl, s3, n3, t3, rfl⟩
  rw [List.append_nil]
  have hr3 : room 0 s3 := t3.room hr2
  repeat (refine WL.nil ?_)
  exact QE.end0 _ rfl (.refl _) ⟨rfl, s3, n3, ((t1.comp t2).comp t3), rfl⟩
end Go.Proofs.Ytalafklnnohlgaa.Cod
