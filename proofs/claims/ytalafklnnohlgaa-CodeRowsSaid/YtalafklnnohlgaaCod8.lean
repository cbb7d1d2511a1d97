/- code's carrier: poll, and what carries a change. Conditions: the bytes so far leave room; a list that is read lies apart from what is written. -/
import Derived.Test.YtalafklnnohlgaaCod7
namespace Go.Proofs.Ytalafklnnohlgaa.Cod
open Go.RowKit X Go.Proofs.YtalafklnnohlgaaW.PrintLast
open Oct hiding agg39 size39
set_option linter.unusedVariables false
set_option linter.unusedSimpArgs false

/-- A list that is read: it lies apart from the chunks H, in memory that was there. -/
def RdO (w : World) (H : List Ck) (B : Option Addr) (L : List Int) : Prop := Rds w B L.length 1 (i64s L) ∧ Off H B ∧ (∀ ad, B = some ad → ad.block < w.heap.size) ∧ L.length ≤ maxLen
theorem RdO.now {E : Env} {w : World} {H H1 : List Ck} {B : Option Addr} {L : List Int} (h : RdO E.w0 H1 B L) (hF : E.F = fps H1) (hI : I E H w) : RdO w H B L := by
  refine ⟨off_kept h.1 h.2.1 hI.kp hF, ?_, fun ad had => Nat.lt_of_lt_of_le (h.2.2.1 ad had) hI.kp.size, h.2.2.2⟩
  rintro ad had ⟨c, hc, hk⟩
  rcases hI.nw c hc _ hk with h1 | h1
  · rw [hF] at h1; exact h.2.1 ad had h1
  · have := h.2.2.1 ad had; omega
theorem RdO.sub {w : World} {H H' : List Ck} {B : Option Addr} {L : List Int} (h : RdO w H B L) (hs : ∀ c ∈ H', c ∈ H) : RdO w H' B L :=
  ⟨h.1, fun ad had hh => by obtain ⟨c, hc, hk⟩ := hh; exact h.2.1 ad had ⟨c, hs c hc, hk⟩, h.2.2⟩
theorem T.w {fs : List Fd} {A : Option Addr} {c : Nat} {out : List Int} {bad : Bool} {e e' : Ev} {s' : Cs} (h : Cod.T fs (.w A c out bad) e s' e') : e' = e ∧ ∃ A' c' o b, s' = .w A' c' o b := by
  obtain ⟨he, A', c', o, b, hs, _⟩ := h
  exact ⟨he, A', c', o, b, hs⟩
theorem list_T {J : Nat} {A A' : Option Addr} {c c' : Nat} {out o : List Int} {bad b : Bool} {e : Ev} (hl : o.length ≤ out.length + 300) (hb : b = true ↔ bad = true ∨ 32 < (e.lst J).length ∨ (e.lst J).any notone = true) (ho : b = false → o = out ++ (u8b (e.lst J).length ++ (e.lst J).flatMap u8b)) :
    T [.l J] (.w A c out bad) e (.w A' c' o b) e := by
  refine ⟨rfl, A', c', o, b, rfl, hl, ?_, fun h => by rw [ho h]; simp [wrF, wrD]⟩
  rw [hb]
  have : (okF [.l J] e = false) ↔ (32 < (e.lst J).length ∨ (e.lst J).any notone = true) := by
    simp only [okF, okD, List.all_cons, List.all_nil, Bool.and_true, Bool.and_eq_false_iff, decide_eq_false_iff_not, Nat.not_le]
    rw [show ((e.lst J).all (fun x => !nofit 1 (IntKind.u64.wrap x))) = !((e.lst J).any notone) by rw [List.not_any_eq_all_not]; rfl]
    simp
  rw [this]

/-- What carrying with a list comes to, to bytes. -/
def EvW (fs : List Fd) (cg g : Nat) (st tt : Value) (s : Cs) (e : Ev) : Value → List Ck → Prop := fun r H' => r = .tuple #[] ∧ ∃ s', T fs s e s' e ∧ H' = carH cg s' ++ [.blk g (evC e.n st tt) 37]
theorem evP_w {fs : List Fd} {cg g : Nat} {st tt : Value} {A : Option Addr} {c : Nat} {out : List Int} {bad : Bool} {e : Ev} {r : Value} {H : List Ck} (h : EvP fs cg g st tt (.w A c out bad) e r H) : EvW fs cg g st tt (.w A c out bad) e r H := by
  obtain ⟨hr, s', n', ht, hH⟩ := h
  have he := ht.w.1
  have hn : n' = e.n := congrArg Ev.n he
  subst hn
  exact ⟨hr, s', ht, hH⟩
theorem listW6 (A : Option Addr) (c : Nat) (out : List Int) (bad : Bool) (e : Ev) (oo : Value) (cg g : Nat) (B : Option Addr) (k : Nat) (hL : e.nums.length ≤ maxLen) (hr : Cod.room 300 (.w A c out bad)) :
    Con Try.prog 101 #[pt cg, .pointer (some ⟨g, 6, none⟩)] (carH cg (.w A c out bad) ++ [.blk g (evC e.n (.slice B e.nums.length k) oo) 37]) (fun w => RdO w (carH cg (.w A c out bad) ++ [.blk g (evC e.n (.slice B e.nums.length k) oo) 37]) B e.nums) (EvW [.l 6] cg g (.slice B e.nums.length k) oo (.w A c out bad) e) :=
  con_pre (con_mono (list_w6 A c out bad e oo cg g B k e.nums hL hr) (by
    rintro r H ⟨rfl, A', c', o, b, rfl, hl, hb, ho⟩
    exact ⟨rfl, _, list_T (J := 6) hl hb ho, rfl⟩)) (fun w h => ⟨h.1, h.2.1⟩)
theorem listW27 (A : Option Addr) (c : Nat) (out : List Int) (bad : Bool) (e : Ev) (oo : Value) (cg g : Nat) (B : Option Addr) (k : Nat) (hL : e.mem.length ≤ maxLen) (hr : Cod.room 300 (.w A c out bad)) :
    Con Try.prog 101 #[pt cg, .pointer (some ⟨g, 27, none⟩)] (carH cg (.w A c out bad) ++ [.blk g (evC e.n oo (.slice B e.mem.length k)) 37]) (fun w => RdO w (carH cg (.w A c out bad) ++ [.blk g (evC e.n oo (.slice B e.mem.length k)) 37]) B e.mem) (EvW [.l 27] cg g oo (.slice B e.mem.length k) (.w A c out bad) e) :=
  con_pre (con_mono (list_w27 A c out bad e oo cg g B k e.mem hL hr) (by
    rintro r H ⟨rfl, A', c', o, b, rfl, hl, hb, ho⟩
    exact ⟨rfl, _, list_T (J := 27) hl hb ho, rfl⟩)) (fun w h => ⟨h.1, h.2.1⟩)

theorem permH {b r : Ck} (X : List Ck) : ((X ++ [b]) ++ [r]).Perm (X ++ [b, r]) := by rw [List.append_assoc]; exact .refl _
def EvR (J : Nat) (fs : List Fd) (cg g : Nat) (oo : Value) (s : Cs) (e : Ev) : Value → List Ck → Prop := fun r H' => r = .tuple #[] ∧ ∃ s' A' c' n' xs, T fs s e s' (Ev.setl ⟨n', e.nums, e.mem⟩ J xs) ∧ xs.length ≤ 255 ∧ H' = carH cg s' ++ [.blk g (bif Nat.beq J 6 then evC n' (.slice A' xs.length c') oo else evC n' oo (.slice A' xs.length c')) 37, .row (.slice A' xs.length c') 3 1 xs.length (i64s xs)]

set_option maxRecDepth 100000 in
theorem poll_w (A : Option Addr) (c : Nat) (out : List Int) (bad : Bool) (e : Ev) (oo : Value) (cg g : Nat) (B : Option Addr) (k : Nat) (hL : e.nums.length ≤ maxLen) (hr : Cod.room 316 (.w A c out bad)) :
    Con Try.prog 93 #[pt cg, .pointer (some ⟨g, 1, none⟩)] (carH cg (.w A c out bad) ++ [.blk g (evC e.n (.slice B e.nums.length k) oo) 37]) (fun w => RdO w (carH cg (.w A c out bad) ++ [.blk g (evC e.n (.slice B e.nums.length k) oo) 37]) B e.nums)
      (EvW [.n 2 1 .i64, .l 6, .n 7 8 .i64] cg g (.slice B e.nums.length k) oo (.w A c out bad) e) := by
  refine Con.intro Try.func93 rfl Try.ntmps93 rfl (fun w hR => ?_)
  unfold pt
  repeat (first | refine WC.seq ?_ | refine WC.region ?_ | refine WL.move _ rfl (by decide) rfl ?_ | refine WL.nilc _ rfl (by decide) rfl ?_ | refine WL.fd33_1 rfl (by decide) rfl ?_)
  refine WL.buildS 1 126 1 [(0, .pointer (some ⟨g, 2, none⟩))] (ptrs g [2]) rfl (by decide) rfl rfl rfl (fun w => by kernel_rfl) (fun gb => ?_)
  skip
  refine WL.call [] [] [pt cg, .slice (some ⟨gb, 0, none⟩) 1 1] _ _ [] (smallE (.w A c out bad) e (.slice B e.nums.length k) oo cg g gb [2] (by decide) (okj_1 (fun _ _ _ => ⟨rfl, fun _ => rfl⟩)) (room_le hr (by decide))) rfl (by decide) rfl Try.func80 rfl rfl rfl rfl (permC _) (fun _ _ => trivial) ?_
  rintro r H1 hh
  obtain ⟨rfl, s1, t1, rfl⟩ := evP_w hh
  rw [List.append_nil]
  obtain ⟨_, A1, c1, o1, b1, rfl⟩ := t1.w
  have hr1 : Cod.room 308 (.w A1 c1 o1 b1) := t1.room hr
  repeat (first | refine WC.seq ?_ | refine WC.region ?_ | refine WL.move _ rfl (by decide) rfl ?_ | refine WL.nilc _ rfl (by decide) rfl ?_ | refine WL.fd33_5 rfl (by decide) rfl ?_)
  refine WL.call [] [] [pt cg, .pointer (some ⟨g, 6, none⟩)] _ _ [] (listW6 A1 c1 o1 b1 e oo cg g B k hL (room_le hr1 (by decide))) rfl (by decide) rfl Try.func101 rfl rfl rfl rfl (by rw [List.append_nil]) (fun w' hI => hR.now rfl hI) ?_
  rintro r H1 ⟨rfl, s2, t2, rfl⟩
  rw [List.append_nil]
  have hr2 : Cod.room 8 s2 := t2.room hr1
  repeat (first | refine WC.region ?_ | refine WL.move _ rfl (by decide) rfl ?_ | refine WL.nilc _ rfl (by decide) rfl ?_ | refine WL.fd33_6 rfl (by decide) rfl ?_)
  refine WL.call [] [] [pt cg, .int .i64 (8 : Nat), .pointer (some ⟨g, 7, none⟩)] _ _ [] (ev83 s2 e (.slice B e.nums.length k) oo cg g 7 8 (by decide) (fun _ _ _ => ⟨rfl, fun _ => rfl⟩) hr2) rfl (by decide) rfl Try.func83 rfl rfl rfl rfl (by rw [List.append_nil]) (fun _ _ => trivial) ?_
  rintro r H1 hh
  obtain ⟨_, A2, c2, o2, b2, rfl⟩ := t2.w
  obtain ⟨rfl, s3, t3, rfl⟩ := evP_w hh
  rw [List.append_nil]
  repeat (refine WL.nil ?_)
  exact QE.end0 _ rfl (.refl _) ⟨rfl, s3, (t1.comp t2).comp t3, rfl⟩

set_option maxRecDepth 100000 in
theorem poll_r (rg : Nat) (A : Option Addr) (c : Nat) (l : List Int) (wk : Nat) (er : Int) (bad : Bool) (e : Ev) (oo : Value) (cg g : Nat) (B : Option Addr) (n0 k : Nat) (hr : Cod.room 316 (.r rg A c l wk er bad)) :
    Con Try.prog 93 #[pt cg, .pointer (some ⟨g, 1, none⟩)] (carH cg (.r rg A c l wk er bad) ++ [.blk g (evC e.n (.slice B n0 k) oo) 37]) (fun _ => True) (EvR 6 [.n 2 1 .i64, .l 6, .n 7 8 .i64] cg g oo (.r rg A c l wk er bad) e) := by
  refine Con.intro Try.func93 rfl Try.ntmps93 rfl (fun w hR => ?_)
  unfold pt
  repeat (first | refine WC.seq ?_ | refine WC.region ?_ | refine WL.move _ rfl (by decide) rfl ?_ | refine WL.nilc _ rfl (by decide) rfl ?_ | refine WL.fd33_1 rfl (by decide) rfl ?_)
  refine WL.buildS 1 126 1 [(0, .pointer (some ⟨g, 2, none⟩))] (ptrs g [2]) rfl (by decide) rfl rfl rfl (fun w => by kernel_rfl) (fun gb => ?_)
  skip
  refine WL.call [] [] [pt cg, .slice (some ⟨gb, 0, none⟩) 1 1] _ _ [] (smallE (.r rg A c l wk er bad) e (.slice B n0 k) oo cg g gb [2] (by decide) (okj_1 (fun _ _ _ => ⟨rfl, fun _ => rfl⟩)) (room_le hr (by decide))) rfl (by decide) rfl Try.func80 rfl rfl rfl rfl (permC _) (fun _ _ => trivial) ?_
  rintro r H1 ⟨rfl, s1, n1, t1, rfl⟩
  rw [List.append_nil]
  have hr1 : Cod.room 308 s1 := t1.room hr
  have t1' := t1
  obtain ⟨wk1, er1, b1, rfl, _⟩ := t1'
  repeat (first | refine WC.seq ?_ | refine WC.region ?_ | refine WL.move _ rfl (by decide) rfl ?_ | refine WL.nilc _ rfl (by decide) rfl ?_ | refine WL.fd33_5 rfl (by decide) rfl ?_)
  refine WL.call [] [] [pt cg, .pointer (some ⟨g, 6, none⟩)] _ _ [] (list_r6 rg A c l wk1 er1 b1 ⟨n1, e.nums, e.mem⟩ oo cg g B n0 k (room_le hr1 (by decide))) rfl (by decide) rfl Try.func101 rfl rfl rfl rfl (by rw [List.append_nil]) (fun _ _ => trivial) ?_
  rintro r H1 ⟨rfl, s2, A2, c2, xs, t2, hxs, rfl⟩
  rw [List.append_nil]
  have hr2 : Cod.room 8 s2 := t2.room hr1
  repeat (first | refine WC.region ?_ | refine WL.move _ rfl (by decide) rfl ?_ | refine WL.nilc _ rfl (by decide) rfl ?_ | refine WL.fd33_6 rfl (by decide) rfl ?_)
  refine WL.call [] [] [pt cg, .int .i64 (8 : Nat), .pointer (some ⟨g, 7, none⟩)] _ _ [.row (.slice A2 xs.length c2) 3 1 xs.length (i64s xs)] (ev83 s2 (Ev.setl ⟨n1, e.nums, e.mem⟩ 6 xs) (.slice A2 xs.length c2) oo cg g 7 8 (by decide) (fun _ _ _ => ⟨rfl, fun _ => rfl⟩) hr2) rfl (by decide) rfl Try.func83 rfl rfl rfl rfl (permH _) (fun _ _ => trivial) ?_
  rintro r H1 ⟨rfl, s3, n3, t3, rfl⟩
  refine WL.perm _ (permH _).symm ?_
  repeat (refine WL.nil ?_)
  exact QE.end0 _ rfl (.refl _) ⟨rfl, s3, A2, c2, n3, xs, (t1.comp t2).comp t3, hxs, rfl⟩

/-- The fields of a change. -/
def liveF (k : Int) : Option (List Fd) :=
  if k = 1 then some [.n 16 1 .i64, .n 22 2 .i64] else
  if k = 2 then some [.n 16 1 .i64, .n 23 2 .i64] else
  if k = 3 then some [.n 16 1 .i64, .n 20 1 .i64] else
  if k = 4 then some [.n 17 1 .i64, .n 24 4 .u32, .n 25 4 .u32] else
  if k = 5 then some [.l 27] else
  if k = 6 then some [.n 18 1 .i64] else
  if k = 7 then some [.n 17 1 .i64] else
  if k = 8 then some [.n 20 1 .i64, .n 26 4 .u32] else
  if k = 9 then some [.n 20 1 .i64, .n 21 1 .i64] else
  if k = 10 then some [.n 19 1 .i64, .n 20 1 .i64] else
  none

set_option maxHeartbeats 8000000 in
set_option maxRecDepth 100000 in
theorem change_con (s : Cs) (e : Ev) (st tt : Value) (cg g : Nat) (h5 : e.n 15 ≠ 5) (hr : Cod.room 64 s) :
    Con Try.prog 82 #[pt cg, .pointer (some ⟨g, 15, none⟩)] (carH cg s ++ [.blk g (evC e.n st tt) 37]) (fun _ => True)
      (fun r H' => ∃ s' n', H' = carH cg s' ++ [.blk g (evC n' st tt) 37] ∧ ((∃ fs, liveF (e.n 15) = some fs ∧ r = .bool true ∧ T fs s e s' ⟨n', e.nums, e.mem⟩) ∨ (liveF (e.n 15) = none ∧ r = .bool false ∧ s' = s ∧ n' = e.n))) := by
  refine Con.intro Try.func82 rfl Try.ntmps82 rfl (fun w _ => ?_)
  unfold pt
  refine WC.perm (.blk g (evC e.n st tt) 37 :: carH cg s) ((carH cg s).perm_append_comm (l₂ := [_])).symm ?_
  refine WC.seq ?_
  repeat (first | refine WC.region ?_ | refine WL.nil ?_ | with_reducible refine QE.then_n ?_ | refine WL.assign _ rfl (by decide) rfl ?_)
  refine WC.seq ?_
  refine WC.seq ?_
  repeat (first | refine WC.region ?_ | refine WC.block ?_ | refine WL.move _ rfl (by decide) rfl ?_ | refine WL.nilc _ rfl (by decide) rfl ?_ | refine WL.fd35_0 rfl (by decide) rfl ?_ | refine WL.ld3 0 rfl (by decide) rfl rfl rfl ?_)
  refine WC.perm _ ((carH cg s).perm_append_comm (l₂ := [_])) ?_
  have hl : ∀ k : Int, e.n 15 = k → liveF (e.n 15) = liveF k := fun k h => by rw [h]
  repeat (first | refine WC.seq ?_ | refine WC.region ?_ | refine WL.nil ?_ | with_reducible refine QE.then_n ?_ | refine WL.assign _ rfl (by decide) rfl ?_ | refine WL.bin _ _ _ rfl (by decide) rfl rfl (fun _ => rfl) ?_)
  refine WC.cond _ rfl (fun h => ?_) (fun h1 => ?_)
  · have h : e.n 15 = 1 := by simpa using h
    repeat (first | refine WC.seq ?_ | refine WC.region ?_ | refine WL.move _ rfl (by decide) rfl ?_ | refine WL.nilc _ rfl (by decide) rfl ?_ | refine WL.fd35_1 rfl (by decide) rfl ?_)
    refine WL.buildS 1 126 1 [(0, .pointer (some ⟨g, 16, none⟩))] (ptrs g [16]) rfl (by decide) rfl rfl rfl (fun w => by kernel_rfl) (fun gb => ?_)
    skip
    refine WL.call [] [] [pt cg, .slice (some ⟨gb, 0, none⟩) 1 1] _ _ [] (smallE s e st tt cg g gb [16] (by decide) (okj_1 (fun _ _ _ => ⟨rfl, fun _ => rfl⟩)) (room_le hr (by decide))) rfl (by decide) rfl Try.func80 rfl rfl rfl rfl (permC _) (fun _ _ => trivial) ?_
    rintro r H1 ⟨rfl, s1, n1, t1, rfl⟩
    rw [List.append_nil]
    have hr1 : Cod.room 56 s1 := t1.room hr
    repeat (first | refine WC.region ?_ | refine WL.move _ rfl (by decide) rfl ?_ | refine WL.nilc _ rfl (by decide) rfl ?_ | refine WL.fd35_7 rfl (by decide) rfl ?_)
    refine WL.call [] [] [pt cg, .int .i64 (2 : Nat), .pointer (some ⟨g, 22, none⟩)] _ _ [] (ev89 s1 ⟨n1, e.nums, e.mem⟩ st tt cg g 22 2 (by decide) (fun _ _ _ => ⟨rfl, fun _ => rfl⟩) (room_le hr1 (by decide))) rfl (by decide) rfl Try.func89 rfl rfl rfl rfl (by rw [List.append_nil]) (fun _ _ => trivial) ?_
    rintro r H1 ⟨rfl, s2, n2, t2, rfl⟩
    rw [List.append_nil]
    have hr2 : Cod.room 48 s2 := t2.room hr1
    repeat (first | refine WC.seq ?_ | refine WC.region ?_ | refine WC.ret ?_ | refine WL.assign _ rfl (by decide) rfl ?_)
    exact QE.ret1 _ _ rfl rfl (.refl _) ⟨s2, n2, rfl, .inl ⟨_, (hl 1 h).trans rfl, rfl, (t1.comp t2)⟩⟩
  repeat (first | refine WC.seq ?_ | refine WC.region ?_ | refine WL.nil ?_ | with_reducible refine QE.then_n ?_ | refine WL.assign _ rfl (by decide) rfl ?_ | refine WL.bin _ _ _ rfl (by decide) rfl rfl (fun _ => rfl) ?_)
  refine WC.cond _ rfl (fun h => ?_) (fun h2 => ?_)
  · have h : e.n 15 = 2 := by simpa using h
    repeat (first | refine WC.seq ?_ | refine WC.region ?_ | refine WL.move _ rfl (by decide) rfl ?_ | refine WL.nilc _ rfl (by decide) rfl ?_ | refine WL.fd35_1 rfl (by decide) rfl ?_)
    refine WL.buildS 1 126 1 [(0, .pointer (some ⟨g, 16, none⟩))] (ptrs g [16]) rfl (by decide) rfl rfl rfl (fun w => by kernel_rfl) (fun gb => ?_)
    skip
    refine WL.call [] [] [pt cg, .slice (some ⟨gb, 0, none⟩) 1 1] _ _ [] (smallE s e st tt cg g gb [16] (by decide) (okj_1 (fun _ _ _ => ⟨rfl, fun _ => rfl⟩)) (room_le hr (by decide))) rfl (by decide) rfl Try.func80 rfl rfl rfl rfl (permC _) (fun _ _ => trivial) ?_
    rintro r H1 ⟨rfl, s1, n1, t1, rfl⟩
    rw [List.append_nil]
    have hr1 : Cod.room 56 s1 := t1.room hr
    repeat (first | refine WC.region ?_ | refine WL.move _ rfl (by decide) rfl ?_ | refine WL.nilc _ rfl (by decide) rfl ?_ | refine WL.fd35_8 rfl (by decide) rfl ?_)
    refine WL.call [] [] [pt cg, .int .i64 (2 : Nat), .pointer (some ⟨g, 23, none⟩)] _ _ [] (ev89 s1 ⟨n1, e.nums, e.mem⟩ st tt cg g 23 2 (by decide) (fun _ _ _ => ⟨rfl, fun _ => rfl⟩) (room_le hr1 (by decide))) rfl (by decide) rfl Try.func89 rfl rfl rfl rfl (by rw [List.append_nil]) (fun _ _ => trivial) ?_
    rintro r H1 ⟨rfl, s2, n2, t2, rfl⟩
    rw [List.append_nil]
    have hr2 : Cod.room 48 s2 := t2.room hr1
    repeat (first | refine WC.seq ?_ | refine WC.region ?_ | refine WC.ret ?_ | refine WL.assign _ rfl (by decide) rfl ?_)
    exact QE.ret1 _ _ rfl rfl (.refl _) ⟨s2, n2, rfl, .inl ⟨_, (hl 2 h).trans rfl, rfl, (t1.comp t2)⟩⟩
  repeat (first | refine WC.seq ?_ | refine WC.region ?_ | refine WL.nil ?_ | with_reducible refine QE.then_n ?_ | refine WL.assign _ rfl (by decide) rfl ?_ | refine WL.bin _ _ _ rfl (by decide) rfl rfl (fun _ => rfl) ?_)
  refine WC.cond _ rfl (fun h => ?_) (fun h3 => ?_)
  · have h : e.n 15 = 3 := by simpa using h
    skip
    refine WC.draw 9 #[false, false, false, false, false, false, false, false, false] [] [] (by kernel_rfl) rfl rfl (by repeat (first | exact List.Sublist.refl _ | exact List.nil_sublist _ | refine List.Sublist.cons_cons _ ?_ | refine List.Sublist.cons _ ?_)) ?_
    refine WA.move 0 #[true, false, false, false, false, false, false, false, false] _ rfl rfl rfl (by decide) (by kernel_rfl) (by repeat (first | with_reducible refine Qp.then ?_ | with_reducible refine Qp.blk ?_ | with_reducible exact Qp.body)) ?_
    refine WA.move 1 #[true, true, false, false, false, false, false, false, false] _ rfl rfl rfl (by decide) (by kernel_rfl) (by repeat (first | with_reducible refine Qp.then ?_ | with_reducible refine Qp.blk ?_ | with_reducible exact Qp.body)) ?_
    refine WA.nilc 2 #[true, true, true, false, false, false, false, false, false] _ rfl rfl rfl (by decide) (by kernel_rfl) (by repeat (first | with_reducible refine Qp.then ?_ | with_reducible refine Qp.blk ?_ | with_reducible exact Qp.body)) ?_
    refine WA.faddr 3 #[true, true, true, true, false, false, false, false, false] _ _ rfl (fa35_1 _ _) rfl rfl (by decide) (by kernel_rfl) (by repeat (first | with_reducible refine Qp.then ?_ | with_reducible refine Qp.blk ?_ | with_reducible exact Qp.body)) ?_
    refine WA.move 4 #[true, true, true, true, true, false, false, false, false] _ rfl rfl rfl (by decide) (by kernel_rfl) (by repeat (first | with_reducible refine Qp.then ?_ | with_reducible refine Qp.blk ?_ | with_reducible exact Qp.body)) ?_
    refine WA.nilc 5 #[true, true, true, true, true, true, false, false, false] _ rfl rfl rfl (by decide) (by kernel_rfl) (by repeat (first | with_reducible refine Qp.then ?_ | with_reducible refine Qp.blk ?_ | with_reducible exact Qp.body)) ?_
    refine WA.faddr 6 #[true, true, true, true, true, true, true, false, false] _ _ rfl (fa35_5 _ _) rfl rfl (by decide) (by kernel_rfl) (by repeat (first | with_reducible refine Qp.then ?_ | with_reducible refine Qp.blk ?_ | with_reducible exact Qp.body)) ?_
    refine WA.buildS 7 #[true, true, true, true, true, true, true, true, false] 2 126 1 [(0, .pointer (some ⟨g, 16, none⟩)), (1, .pointer (some ⟨g, 20, none⟩))] (ptrs g [16, 20]) rfl rfl (by decide) (by kernel_rfl) rfl (by repeat (first | exact List.Sublist.refl _ | exact List.nil_sublist _ | refine List.Sublist.cons_cons _ ?_ | refine List.Sublist.cons _ ?_)) rfl rfl rfl (fun w => by kernel_rfl) (fun gb => ?_)
    refine WA.call 8 #[true, true, true, true, true, true, true, true, true] [] [] [pt cg, .slice (some ⟨gb, 0, none⟩) 2 2] _ _ [] (smallE s e st tt cg g gb [16, 20] (by decide) (okj_2 (fun _ _ _ => ⟨rfl, fun _ => rfl⟩) (fun _ _ _ => ⟨rfl, fun _ => rfl⟩)) (room_le hr (by decide))) rfl rfl (by decide) (by kernel_rfl) rfl rfl Try.func80 rfl rfl rfl rfl (permC _) (fun _ _ => trivial) ?_
    rintro r H1 ⟨rfl, s1, n1, t1, rfl⟩
    rw [List.append_nil]
    refine ⟨List.nil_sublist _, ?_⟩
    refine WA.done (by kernel_rfl) ?_
    have hr1 : Cod.room 48 s1 := t1.room hr
    repeat (first | refine WC.seq ?_ | refine WC.region ?_ | refine WC.ret ?_ | refine WL.assign _ rfl (by decide) rfl ?_)
    exact QE.ret1 _ _ rfl rfl (.refl _) ⟨s1, n1, rfl, .inl ⟨_, (hl 3 h).trans rfl, rfl, t1⟩⟩
  repeat (first | refine WC.seq ?_ | refine WC.region ?_ | refine WL.nil ?_ | with_reducible refine QE.then_n ?_ | refine WL.assign _ rfl (by decide) rfl ?_ | refine WL.bin _ _ _ rfl (by decide) rfl rfl (fun _ => rfl) ?_)
  refine WC.cond _ rfl (fun h => ?_) (fun h4 => ?_)
  · have h : e.n 15 = 4 := by simpa using h
    repeat (first | refine WC.seq ?_ | refine WC.region ?_ | refine WL.move _ rfl (by decide) rfl ?_ | refine WL.nilc _ rfl (by decide) rfl ?_ | refine WL.fd35_2 rfl (by decide) rfl ?_)
    refine WL.buildS 1 126 1 [(0, .pointer (some ⟨g, 17, none⟩))] (ptrs g [17]) rfl (by decide) rfl rfl rfl (fun w => by kernel_rfl) (fun gb => ?_)
    skip
    refine WL.call [] [] [pt cg, .slice (some ⟨gb, 0, none⟩) 1 1] _ _ [] (smallE s e st tt cg g gb [17] (by decide) (okj_1 (fun _ _ _ => ⟨rfl, fun _ => rfl⟩)) (room_le hr (by decide))) rfl (by decide) rfl Try.func80 rfl rfl rfl rfl (permC _) (fun _ _ => trivial) ?_
    rintro r H1 ⟨rfl, s1, n1, t1, rfl⟩
    rw [List.append_nil]
    have hr1 : Cod.room 56 s1 := t1.room hr
    repeat (first | refine WC.region ?_ | refine WL.move _ rfl (by decide) rfl ?_ | refine WL.nilc _ rfl (by decide) rfl ?_ | refine WL.fd35_9 rfl (by decide) rfl ?_)
    refine WL.call [] [] [pt cg, .pointer (some ⟨g, 24, none⟩)] _ _ [] (mask24_con s1 ⟨n1, e.nums, e.mem⟩ st tt cg g (room_le hr1 (by decide))) rfl (by decide) rfl Try.func100 rfl rfl rfl rfl (by rw [List.append_nil]) (fun _ _ => trivial) ?_
    rintro r H1 ⟨rfl, s2, n2, t2, rfl⟩
    rw [List.append_nil]
    have hr2 : Cod.room 40 s2 := t2.room hr1
    repeat (first | refine WC.seq ?_ | refine WC.region ?_ | refine WC.ret ?_ | refine WL.assign _ rfl (by decide) rfl ?_)
    exact QE.ret1 _ _ rfl rfl (.refl _) ⟨s2, n2, rfl, .inl ⟨_, (hl 4 h).trans rfl, rfl, (t1.comp t2)⟩⟩
  repeat (first | refine WC.seq ?_ | refine WC.region ?_ | refine WL.nil ?_ | with_reducible refine QE.then_n ?_ | refine WL.assign _ rfl (by decide) rfl ?_ | refine WL.bin _ _ _ rfl (by decide) rfl rfl (fun _ => rfl) ?_)
  refine WC.cond _ rfl (fun h => ?_) (fun h5 => ?_)
  · have h : e.n 15 = 5 := by simpa using h
    exact absurd h h5
  repeat (first | refine WC.seq ?_ | refine WC.region ?_ | refine WL.nil ?_ | with_reducible refine QE.then_n ?_ | refine WL.assign _ rfl (by decide) rfl ?_ | refine WL.bin _ _ _ rfl (by decide) rfl rfl (fun _ => rfl) ?_)
  refine WC.cond _ rfl (fun h => ?_) (fun h6 => ?_)
  · have h : e.n 15 = 6 := by simpa using h
    repeat (first | refine WC.region ?_ | refine WL.move _ rfl (by decide) rfl ?_ | refine WL.nilc _ rfl (by decide) rfl ?_ | refine WL.fd35_3 rfl (by decide) rfl ?_)
    refine WL.buildS 1 126 1 [(0, .pointer (some ⟨g, 18, none⟩))] (ptrs g [18]) rfl (by decide) rfl rfl rfl (fun w => by kernel_rfl) (fun gb => ?_)
    skip
    refine WL.call [] [] [pt cg, .slice (some ⟨gb, 0, none⟩) 1 1] _ _ [] (smallE s e st tt cg g gb [18] (by decide) (okj_1 (fun _ _ _ => ⟨rfl, fun _ => rfl⟩)) (room_le hr (by decide))) rfl (by decide) rfl Try.func80 rfl rfl rfl rfl (permC _) (fun _ _ => trivial) ?_
    rintro r H1 ⟨rfl, s1, n1, t1, rfl⟩
    rw [List.append_nil]
    have hr1 : Cod.room 56 s1 := t1.room hr
    repeat (first | refine WC.seq ?_ | refine WC.region ?_ | refine WC.ret ?_ | refine WL.assign _ rfl (by decide) rfl ?_)
    exact QE.ret1 _ _ rfl rfl (.refl _) ⟨s1, n1, rfl, .inl ⟨_, (hl 6 h).trans rfl, rfl, t1⟩⟩
  repeat (first | refine WC.seq ?_ | refine WC.region ?_ | refine WL.nil ?_ | with_reducible refine QE.then_n ?_ | refine WL.assign _ rfl (by decide) rfl ?_ | refine WL.bin _ _ _ rfl (by decide) rfl rfl (fun _ => rfl) ?_)
  refine WC.cond _ rfl (fun h => ?_) (fun h7 => ?_)
  · have h : e.n 15 = 7 := by simpa using h
    repeat (first | refine WC.region ?_ | refine WL.move _ rfl (by decide) rfl ?_ | refine WL.nilc _ rfl (by decide) rfl ?_ | refine WL.fd35_2 rfl (by decide) rfl ?_)
    refine WL.buildS 1 126 1 [(0, .pointer (some ⟨g, 17, none⟩))] (ptrs g [17]) rfl (by decide) rfl rfl rfl (fun w => by kernel_rfl) (fun gb => ?_)
    skip
    refine WL.call [] [] [pt cg, .slice (some ⟨gb, 0, none⟩) 1 1] _ _ [] (smallE s e st tt cg g gb [17] (by decide) (okj_1 (fun _ _ _ => ⟨rfl, fun _ => rfl⟩)) (room_le hr (by decide))) rfl (by decide) rfl Try.func80 rfl rfl rfl rfl (permC _) (fun _ _ => trivial) ?_
    rintro r H1 ⟨rfl, s1, n1, t1, rfl⟩
    rw [List.append_nil]
    have hr1 : Cod.room 56 s1 := t1.room hr
    repeat (first | refine WC.seq ?_ | refine WC.region ?_ | refine WC.ret ?_ | refine WL.assign _ rfl (by decide) rfl ?_)
    exact QE.ret1 _ _ rfl rfl (.refl _) ⟨s1, n1, rfl, .inl ⟨_, (hl 7 h).trans rfl, rfl, t1⟩⟩
  repeat (first | refine WC.seq ?_ | refine WC.region ?_ | refine WL.nil ?_ | with_reducible refine QE.then_n ?_ | refine WL.assign _ rfl (by decide) rfl ?_ | refine WL.bin _ _ _ rfl (by decide) rfl rfl (fun _ => rfl) ?_)
  refine WC.cond _ rfl (fun h => ?_) (fun h8 => ?_)
  · have h : e.n 15 = 8 := by simpa using h
    repeat (first | refine WC.seq ?_ | refine WC.region ?_ | refine WL.move _ rfl (by decide) rfl ?_ | refine WL.nilc _ rfl (by decide) rfl ?_ | refine WL.fd35_5 rfl (by decide) rfl ?_)
    refine WL.buildS 1 126 1 [(0, .pointer (some ⟨g, 20, none⟩))] (ptrs g [20]) rfl (by decide) rfl rfl rfl (fun w => by kernel_rfl) (fun gb => ?_)
    skip
    refine WL.call [] [] [pt cg, .slice (some ⟨gb, 0, none⟩) 1 1] _ _ [] (smallE s e st tt cg g gb [20] (by decide) (okj_1 (fun _ _ _ => ⟨rfl, fun _ => rfl⟩)) (room_le hr (by decide))) rfl (by decide) rfl Try.func80 rfl rfl rfl rfl (permC _) (fun _ _ => trivial) ?_
    rintro r H1 ⟨rfl, s1, n1, t1, rfl⟩
    rw [List.append_nil]
    have hr1 : Cod.room 56 s1 := t1.room hr
    repeat (first | refine WC.region ?_ | refine WL.move _ rfl (by decide) rfl ?_ | refine WL.nilc _ rfl (by decide) rfl ?_ | refine WL.fd35_10 rfl (by decide) rfl ?_)
    refine WL.call [] [] [pt cg, .int .i64 (4 : Nat), .pointer (some ⟨g, 26, none⟩)] _ _ [] (ev102 s1 ⟨n1, e.nums, e.mem⟩ st tt cg g 26 4 (by decide) (fun _ _ _ => ⟨rfl, fun _ => rfl⟩) (room_le hr1 (by decide))) rfl (by decide) rfl Try.func102 rfl rfl rfl rfl (by rw [List.append_nil]) (fun _ _ => trivial) ?_
    rintro r H1 ⟨rfl, s2, n2, t2, rfl⟩
    rw [List.append_nil]
    have hr2 : Cod.room 48 s2 := t2.room hr1
    repeat (first | refine WC.seq ?_ | refine WC.region ?_ | refine WC.ret ?_ | refine WL.assign _ rfl (by decide) rfl ?_)
    exact QE.ret1 _ _ rfl rfl (.refl _) ⟨s2, n2, rfl, .inl ⟨_, (hl 8 h).trans rfl, rfl, (t1.comp t2)⟩⟩
  repeat (first | refine WC.seq ?_ | refine WC.region ?_ | refine WL.nil ?_ | with_reducible refine QE.then_n ?_ | refine WL.assign _ rfl (by decide) rfl ?_ | refine WL.bin _ _ _ rfl (by decide) rfl rfl (fun _ => rfl) ?_)
  refine WC.cond _ rfl (fun h => ?_) (fun h9 => ?_)
  · have h : e.n 15 = 9 := by simpa using h
    skip
    refine WC.draw 9 #[false, false, false, false, false, false, false, false, false] [] [] (by kernel_rfl) rfl rfl (by repeat (first | exact List.Sublist.refl _ | exact List.nil_sublist _ | refine List.Sublist.cons_cons _ ?_ | refine List.Sublist.cons _ ?_)) ?_
    refine WA.move 0 #[true, false, false, false, false, false, false, false, false] _ rfl rfl rfl (by decide) (by kernel_rfl) (by repeat (first | with_reducible refine Qp.then ?_ | with_reducible refine Qp.blk ?_ | with_reducible exact Qp.body)) ?_
    refine WA.move 1 #[true, true, false, false, false, false, false, false, false] _ rfl rfl rfl (by decide) (by kernel_rfl) (by repeat (first | with_reducible refine Qp.then ?_ | with_reducible refine Qp.blk ?_ | with_reducible exact Qp.body)) ?_
    refine WA.nilc 2 #[true, true, true, false, false, false, false, false, false] _ rfl rfl rfl (by decide) (by kernel_rfl) (by repeat (first | with_reducible refine Qp.then ?_ | with_reducible refine Qp.blk ?_ | with_reducible exact Qp.body)) ?_
    refine WA.faddr 3 #[true, true, true, true, false, false, false, false, false] _ _ rfl (fa35_5 _ _) rfl rfl (by decide) (by kernel_rfl) (by repeat (first | with_reducible refine Qp.then ?_ | with_reducible refine Qp.blk ?_ | with_reducible exact Qp.body)) ?_
    refine WA.move 4 #[true, true, true, true, true, false, false, false, false] _ rfl rfl rfl (by decide) (by kernel_rfl) (by repeat (first | with_reducible refine Qp.then ?_ | with_reducible refine Qp.blk ?_ | with_reducible exact Qp.body)) ?_
    refine WA.nilc 5 #[true, true, true, true, true, true, false, false, false] _ rfl rfl rfl (by decide) (by kernel_rfl) (by repeat (first | with_reducible refine Qp.then ?_ | with_reducible refine Qp.blk ?_ | with_reducible exact Qp.body)) ?_
    refine WA.faddr 6 #[true, true, true, true, true, true, true, false, false] _ _ rfl (fa35_6 _ _) rfl rfl (by decide) (by kernel_rfl) (by repeat (first | with_reducible refine Qp.then ?_ | with_reducible refine Qp.blk ?_ | with_reducible exact Qp.body)) ?_
    refine WA.buildS 7 #[true, true, true, true, true, true, true, true, false] 2 126 1 [(0, .pointer (some ⟨g, 20, none⟩)), (1, .pointer (some ⟨g, 21, none⟩))] (ptrs g [20, 21]) rfl rfl (by decide) (by kernel_rfl) rfl (by repeat (first | exact List.Sublist.refl _ | exact List.nil_sublist _ | refine List.Sublist.cons_cons _ ?_ | refine List.Sublist.cons _ ?_)) rfl rfl rfl (fun w => by kernel_rfl) (fun gb => ?_)
    refine WA.call 8 #[true, true, true, true, true, true, true, true, true] [] [] [pt cg, .slice (some ⟨gb, 0, none⟩) 2 2] _ _ [] (smallE s e st tt cg g gb [20, 21] (by decide) (okj_2 (fun _ _ _ => ⟨rfl, fun _ => rfl⟩) (fun _ _ _ => ⟨rfl, fun _ => rfl⟩)) (room_le hr (by decide))) rfl rfl (by decide) (by kernel_rfl) rfl rfl Try.func80 rfl rfl rfl rfl (permC _) (fun _ _ => trivial) ?_
    rintro r H1 ⟨rfl, s1, n1, t1, rfl⟩
    rw [List.append_nil]
    refine ⟨List.nil_sublist _, ?_⟩
    refine WA.done (by kernel_rfl) ?_
    have hr1 : Cod.room 48 s1 := t1.room hr
    repeat (first | refine WC.seq ?_ | refine WC.region ?_ | refine WC.ret ?_ | refine WL.assign _ rfl (by decide) rfl ?_)
    exact QE.ret1 _ _ rfl rfl (.refl _) ⟨s1, n1, rfl, .inl ⟨_, (hl 9 h).trans rfl, rfl, t1⟩⟩
  repeat (first | refine WC.seq ?_ | refine WC.region ?_ | refine WL.nil ?_ | with_reducible refine QE.then_n ?_ | refine WL.assign _ rfl (by decide) rfl ?_ | refine WL.bin _ _ _ rfl (by decide) rfl rfl (fun _ => rfl) ?_)
  refine WC.cond _ rfl (fun h => ?_) (fun h10 => ?_)
  · have h : e.n 15 = 10 := by simpa using h
    skip
    refine WC.draw 9 #[false, false, false, false, false, false, false, false, false] [] [] (by kernel_rfl) rfl rfl (by repeat (first | exact List.Sublist.refl _ | exact List.nil_sublist _ | refine List.Sublist.cons_cons _ ?_ | refine List.Sublist.cons _ ?_)) ?_
    refine WA.move 0 #[true, false, false, false, false, false, false, false, false] _ rfl rfl rfl (by decide) (by kernel_rfl) (by repeat (first | with_reducible refine Qp.then ?_ | with_reducible refine Qp.blk ?_ | with_reducible exact Qp.body)) ?_
    refine WA.move 1 #[true, true, false, false, false, false, false, false, false] _ rfl rfl rfl (by decide) (by kernel_rfl) (by repeat (first | with_reducible refine Qp.then ?_ | with_reducible refine Qp.blk ?_ | with_reducible exact Qp.body)) ?_
    refine WA.nilc 2 #[true, true, true, false, false, false, false, false, false] _ rfl rfl rfl (by decide) (by kernel_rfl) (by repeat (first | with_reducible refine Qp.then ?_ | with_reducible refine Qp.blk ?_ | with_reducible exact Qp.body)) ?_
    refine WA.faddr 3 #[true, true, true, true, false, false, false, false, false] _ _ rfl (fa35_4 _ _) rfl rfl (by decide) (by kernel_rfl) (by repeat (first | with_reducible refine Qp.then ?_ | with_reducible refine Qp.blk ?_ | with_reducible exact Qp.body)) ?_
    refine WA.move 4 #[true, true, true, true, true, false, false, false, false] _ rfl rfl rfl (by decide) (by kernel_rfl) (by repeat (first | with_reducible refine Qp.then ?_ | with_reducible refine Qp.blk ?_ | with_reducible exact Qp.body)) ?_
    refine WA.nilc 5 #[true, true, true, true, true, true, false, false, false] _ rfl rfl rfl (by decide) (by kernel_rfl) (by repeat (first | with_reducible refine Qp.then ?_ | with_reducible refine Qp.blk ?_ | with_reducible exact Qp.body)) ?_
    refine WA.faddr 6 #[true, true, true, true, true, true, true, false, false] _ _ rfl (fa35_5 _ _) rfl rfl (by decide) (by kernel_rfl) (by repeat (first | with_reducible refine Qp.then ?_ | with_reducible refine Qp.blk ?_ | with_reducible exact Qp.body)) ?_
    refine WA.buildS 7 #[true, true, true, true, true, true, true, true, false] 2 126 1 [(0, .pointer (some ⟨g, 19, none⟩)), (1, .pointer (some ⟨g, 20, none⟩))] (ptrs g [19, 20]) rfl rfl (by decide) (by kernel_rfl) rfl (by repeat (first | exact List.Sublist.refl _ | exact List.nil_sublist _ | refine List.Sublist.cons_cons _ ?_ | refine List.Sublist.cons _ ?_)) rfl rfl rfl (fun w => by kernel_rfl) (fun gb => ?_)
    refine WA.call 8 #[true, true, true, true, true, true, true, true, true] [] [] [pt cg, .slice (some ⟨gb, 0, none⟩) 2 2] _ _ [] (smallE s e st tt cg g gb [19, 20] (by decide) (okj_2 (fun _ _ _ => ⟨rfl, fun _ => rfl⟩) (fun _ _ _ => ⟨rfl, fun _ => rfl⟩)) (room_le hr (by decide))) rfl rfl (by decide) (by kernel_rfl) rfl rfl Try.func80 rfl rfl rfl rfl (permC _) (fun _ _ => trivial) ?_
    rintro r H1 ⟨rfl, s1, n1, t1, rfl⟩
    rw [List.append_nil]
    refine ⟨List.nil_sublist _, ?_⟩
    refine WA.done (by kernel_rfl) ?_
    have hr1 : Cod.room 48 s1 := t1.room hr
    repeat (first | refine WC.seq ?_ | refine WC.region ?_ | refine WC.ret ?_ | refine WL.assign _ rfl (by decide) rfl ?_)
    exact QE.ret1 _ _ rfl rfl (.refl _) ⟨s1, n1, rfl, .inl ⟨_, (hl 10 h).trans rfl, rfl, t1⟩⟩
  repeat (first | refine WC.seq ?_ | refine WC.region ?_ | refine WC.ret ?_ | with_reducible refine QE.then_r ?_ | with_reducible refine QE.blk_r ?_ | refine WL.assign _ rfl (by decide) rfl ?_)
  refine QE.ret1 _ _ rfl rfl (.refl _) ⟨s, e.n, rfl, .inr ⟨?_, rfl, rfl, rfl⟩⟩
  unfold liveF
  rw [if_neg (by simpa using h1)]
  rw [if_neg (by simpa using h2)]
  rw [if_neg (by simpa using h3)]
  rw [if_neg (by simpa using h4)]
  rw [if_neg (by simpa using h5)]
  rw [if_neg (by simpa using h6)]
  rw [if_neg (by simpa using h7)]
  rw [if_neg (by simpa using h8)]
  rw [if_neg (by simpa using h9)]
  rw [if_neg (by simpa using h10)]

set_option maxHeartbeats 8000000 in
set_option maxRecDepth 100000 in
theorem form_w (A : Option Addr) (c : Nat) (out : List Int) (bad : Bool) (e : Ev) (oo : Value) (cg g : Nat) (B : Option Addr) (k : Nat) (h5 : e.n 15 = 5) (hL : e.mem.length ≤ maxLen) (hr : Cod.room 300 (.w A c out bad)) :
    Con Try.prog 82 #[pt cg, .pointer (some ⟨g, 15, none⟩)] (carH cg (.w A c out bad) ++ [.blk g (evC e.n oo (.slice B e.mem.length k)) 37]) (fun w => RdO w (carH cg (.w A c out bad) ++ [.blk g (evC e.n oo (.slice B e.mem.length k)) 37]) B e.mem)
      (fun r H' => r = .bool true ∧ EvW [.l 27] cg g oo (.slice B e.mem.length k) (.w A c out bad) e (.tuple #[]) H') := by
  refine Con.intro Try.func82 rfl Try.ntmps82 rfl (fun w hR => ?_)
  unfold pt
  refine WC.perm (.blk g (evC e.n oo (.slice B e.mem.length k)) 37 :: carH cg (.w A c out bad)) ((carH cg (.w A c out bad)).perm_append_comm (l₂ := [_])).symm ?_
  refine WC.seq ?_
  repeat (first | refine WC.region ?_ | refine WL.nil ?_ | with_reducible refine QE.then_n ?_ | refine WL.assign _ rfl (by decide) rfl ?_)
  refine WC.seq ?_
  refine WC.seq ?_
  repeat (first | refine WC.region ?_ | refine WC.block ?_ | refine WL.move _ rfl (by decide) rfl ?_ | refine WL.nilc _ rfl (by decide) rfl ?_ | refine WL.fd35_0 rfl (by decide) rfl ?_ | refine WL.ld3 0 rfl (by decide) rfl rfl rfl ?_)
  refine WC.know (.int .i64 5) (s := 8) rfl (congrArg _ h5) ?_
  refine WC.perm _ ((carH cg (.w A c out bad)).perm_append_comm (l₂ := [_])) ?_
  repeat (first | refine WC.seq ?_ | refine WC.region ?_ | refine WL.nil ?_ | with_reducible refine QE.then_n ?_ | refine WC.cond_t rfl ?_ | refine WC.cond_f rfl ?_ | refine WL.move _ rfl (by decide) rfl ?_ | refine WL.assign _ rfl (by decide) rfl ?_ | refine WL.bin _ _ _ rfl (by decide) rfl rfl (fun _ => rfl) ?_ | refine WL.nilc _ rfl (by decide) rfl ?_ | refine WL.fd35_11 rfl (by decide) rfl ?_)
  refine WL.call [] [] [pt cg, .pointer (some ⟨g, 27, none⟩)] _ _ [] (listW27 A c out bad e oo cg g B k hL hr) rfl (by decide) rfl Try.func101 rfl rfl rfl rfl (by rw [List.append_nil]) (fun w' hI => hR.now rfl hI) ?_
  rintro r H1 ⟨rfl, s1, t1, rfl⟩
  rw [List.append_nil]
  repeat (first | refine WC.seq ?_ | refine WC.region ?_ | refine WC.ret ?_ | refine WL.assign _ rfl (by decide) rfl ?_)
  exact QE.ret1 _ _ rfl rfl (.refl _) ⟨rfl, rfl, s1, t1, rfl⟩

set_option maxHeartbeats 8000000 in
set_option maxRecDepth 100000 in
theorem form_r (rg : Nat) (A : Option Addr) (c : Nat) (l : List Int) (wk : Nat) (er : Int) (bad : Bool) (e : Ev) (oo : Value) (cg g : Nat) (B : Option Addr) (n0 k : Nat) (h5 : e.n 15 = 5) (hr : Cod.room 300 (.r rg A c l wk er bad)) :
    Con Try.prog 82 #[pt cg, .pointer (some ⟨g, 15, none⟩)] (carH cg (.r rg A c l wk er bad) ++ [.blk g (evC e.n oo (.slice B n0 k)) 37]) (fun _ => True) (fun r H' => r = .bool true ∧ EvR 27 [.l 27] cg g oo (.r rg A c l wk er bad) e (.tuple #[]) H') := by
  refine Con.intro Try.func82 rfl Try.ntmps82 rfl (fun w hR => ?_)
  unfold pt
  refine WC.perm (.blk g (evC e.n oo (.slice B n0 k)) 37 :: carH cg (.r rg A c l wk er bad)) ((carH cg (.r rg A c l wk er bad)).perm_append_comm (l₂ := [_])).symm ?_
  refine WC.seq ?_
  repeat (first | refine WC.region ?_ | refine WL.nil ?_ | with_reducible refine QE.then_n ?_ | refine WL.assign _ rfl (by decide) rfl ?_)
  refine WC.seq ?_
  refine WC.seq ?_
  repeat (first | refine WC.region ?_ | refine WC.block ?_ | refine WL.move _ rfl (by decide) rfl ?_ | refine WL.nilc _ rfl (by decide) rfl ?_ | refine WL.fd35_0 rfl (by decide) rfl ?_ | refine WL.ld3 0 rfl (by decide) rfl rfl rfl ?_)
  refine WC.know (.int .i64 5) (s := 8) rfl (congrArg _ h5) ?_
  refine WC.perm _ ((carH cg (.r rg A c l wk er bad)).perm_append_comm (l₂ := [_])) ?_
  repeat (first | refine WC.seq ?_ | refine WC.region ?_ | refine WL.nil ?_ | with_reducible refine QE.then_n ?_ | refine WC.cond_t rfl ?_ | refine WC.cond_f rfl ?_ | refine WL.move _ rfl (by decide) rfl ?_ | refine WL.assign _ rfl (by decide) rfl ?_ | refine WL.bin _ _ _ rfl (by decide) rfl rfl (fun _ => rfl) ?_ | refine WL.nilc _ rfl (by decide) rfl ?_ | refine WL.fd35_11 rfl (by decide) rfl ?_)
  refine WL.call [] [] [pt cg, .pointer (some ⟨g, 27, none⟩)] _ _ [] (list_r27 rg A c l wk er bad e oo cg g B n0 k hr) rfl (by decide) rfl Try.func101 rfl rfl rfl rfl (by rw [List.append_nil]) (fun _ _ => trivial) ?_
  rintro r H1 ⟨rfl, s1, A1, c1, xs, t1, hxs, rfl⟩
  rw [List.append_nil]
  repeat (first | refine WC.seq ?_ | refine WC.region ?_ | refine WC.ret ?_ | refine WL.assign _ rfl (by decide) rfl ?_)
  exact QE.ret1 _ _ rfl rfl (.refl _) ⟨rfl, rfl, s1, A1, c1, e.n, xs, t1, hxs, rfl⟩
end Go.Proofs.Ytalafklnnohlgaa.Cod
