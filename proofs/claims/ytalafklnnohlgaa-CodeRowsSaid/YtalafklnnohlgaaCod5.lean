/- code's carrier: a list, to bytes. Conditions: the bytes so far leave room; the list lies apart from what is written. -/
import Derived.Test.YtalafklnnohlgaaCod4
namespace Go.Proofs.Ytalafklnnohlgaa.Cod
open Go.RowKit X Go.Proofs.YtalafklnnohlgaaW.PrintLast
open Oct hiding agg39 size39
set_option linter.unusedVariables false
set_option linter.unusedSimpArgs false

def i64s (l : List Int) : List Value := l.map (Value.int .i64)
theorem i64s_at {l : List Int} {i : Nat} {x : Int} (h : l[i]? = some x) : (i64s l)[i]? = some (.int .i64 x) := by simp [i64s, h]
def Off (H : List Ck) (B : Option Addr) : Prop := ∀ ad, B = some ad → ¬ fps H ad.block
theorem off_kept {E : Env} {w : World} {H : List Ck} {B : Option Addr} {n s : Nat} {xs : List Value} (h : Rds E.w0 B n s xs) (ho : Off H B) (hk : Kept E w) (hF : E.F = fps H) : Rds w B n s xs := h.kept hk (fun ad had hh => by rw [hF] at hh; exact ho ad had hh)
theorem nofit_ge {x : Int} (h0 : 0 ≤ x) (h : nofit 1 x = true) : 256 ≤ x := by
  simp only [nofit, Bool.and_eq_true, Bool.not_eq_true', decide_eq_false_iff_not] at h
  have := h.2
  omega
theorem perm22 {a b c d : Ck} : ([a, b] ++ [c, d]).Perm [c, d, a, b] := List.perm_append_comm
theorem permE {n r g : Ck} (a b : Ck) : (([a, b] ++ [n, r]) ++ [g]).Perm [r, n, a, b, g] := by
  refine List.Perm.append_right [g] (?_ : ([a, b] ++ [n, r]).Perm [r, n, a, b])
  exact (List.perm_append_comm (l₂ := [n, r])).trans (.swap _ _ _)
theorem permF {a b x r n g : Ck} : (([a, b] ++ [x, r]) ++ [n, g]).Perm [r, x, a, b, n, g] :=
  List.Perm.append_right [n, g] (show ([a, b] ++ [x, r]).Perm [r, x, a, b] from (List.perm_append_comm (l₂ := [x, r])).trans (.swap _ _ _))
theorem any_take {α : Type} {p : α → Bool} {l : List α} {i : Nat} (h : (l.take i).any p = true) : l.any p = true := by
  rw [List.any_eq_true] at h ⊢
  obtain ⟨x, hx, hp⟩ := h
  exact ⟨x, List.mem_of_mem_take hx, hp⟩
def notone (x : Int) : Bool := nofit 1 (IntKind.u64.wrap x)


set_option maxHeartbeats 8000000 in
set_option maxRecDepth 100000 in
theorem list_w6 (A : Option Addr) (c : Nat) (out : List Int) (bad : Bool) (e : Ev) (oo : Value) (cg g : Nat) (B : Option Addr) (k : Nat) (L : List Int) (hL : L.length ≤ maxLen) (hr : Cod.room 300 (.w A c out bad)) :
    Con Try.prog 101 #[pt cg, .pointer (some ⟨g, 6, none⟩)] (carH cg (.w A c out bad) ++ [.blk g (evC e.n (.slice B L.length k) oo) 37]) (fun w => Rds w B L.length 1 (i64s L) ∧ Off (carH cg (.w A c out bad) ++ [.blk g (evC e.n (.slice B L.length k) oo) 37]) B)
      (fun r H' => r = .tuple #[] ∧ ∃ A' c' o b, H' = carH cg (.w A' c' o b) ++ [.blk g (evC e.n (.slice B L.length k) oo) 37] ∧ o.length ≤ out.length + 300 ∧ (b = true ↔ bad = true ∨ 32 < L.length ∨ L.any notone = true) ∧ (b = false → o = out ++ (u8b L.length ++ L.flatMap u8b))) := by
  refine Con.intro Try.func101 rfl Try.ntmps101 rfl (fun w hR => ?_)
  have hroom : out.length + 300 ≤ 140737488355328 := hr
  simp only [maxLen] at hL
  have hread : ∀ {H : List Ck} {w' : World}, I ⟨w, fps (carH cg (.w A c out bad) ++ [.blk g (evC e.n (.slice B L.length k) oo) 37])⟩ H w' → Rds w' B L.length 1 (i64s L) := fun hI => off_kept hR.1 hR.2 hI.kp rfl
  simp only [carH, pt, List.cons_append, List.nil_append] at hread ⊢
  repeat (first | refine WC.seq ?_ | refine WC.region ?_ | refine WL.move _ rfl (by decide) rfl ?_ | refine WL.nilc _ rfl (by decide) rfl ?_ | refine WL.ln25 rfl (by decide) rfl ?_ | refine WL.ld25 2 rfl (by decide) rfl rfl rfl ?_)
  refine WL.alloc (.int .i64 0) [.int .i64 0] rfl (by decide) (fun w => by kernel_rfl) rfl (fun nb => ?_)
  repeat (first | refine WC.seq ?_ | refine WC.region ?_ | refine WL.move _ rfl (by decide) rfl ?_ | refine WL.st3 0 rfl rfl rfl rfl rfl rfl rfl rfl rfl ?_)
  refine WL.buildS 1 126 1 [(0, .pointer (some ⟨nb, 0, none⟩))] (ptrs nb [0]) rfl (by decide) rfl rfl rfl (fun w => by kernel_rfl) (fun gb => ?_)
  skip
  refine WL.call [] [] [pt cg, .slice (some ⟨gb, 0, none⟩) 1 1] _ _ [.blk g (evC e.n (.slice B L.length k) oo) 37] (small_con (.w A c out bad) cg nb 3 gb [.int .i64 L.length] [0] (by decide) (by simp) (room_le hr (by decide))) rfl (by decide) rfl Try.func80 rfl rfl rfl rfl (permE _ _) (fun _ _ => trivial) ?_
  rintro r H1 ⟨rfl, s', cs', hs, rfl⟩
  obtain ⟨v1, rfl, rfl, A1, c1, rfl⟩ := small_one hs
  have hw64 : IntKind.u64.wrap (L.length : Int) = L.length := wr_u64 (by omega) (by omega)
  simp only [carH, pt, List.cons_append, List.nil_append, hw64]
  obtain ⟨N, hN⟩ : ∃ N : Bool, N = (bad || decide (32 < L.length)) := ⟨_, rfl⟩
  refine WC.cut (σ := Unit) (fun _ => [(0, .pointer (some ⟨cg, 0, none⟩)), (1, .pointer (some ⟨g, 6, none⟩)), (4, .pointer (some ⟨nb, 0, none⟩))])
    (fun _ => [.blk cg [.pointer none, .slice A1 (out ++ beB 1 L.length).length c1, .bool N] 96, .row (.slice A1 (out ++ beB 1 L.length).length c1) 5 1 (out ++ beB 1 L.length).length (b8 (out ++ beB 1 L.length)), .blk nb [.int .i64 L.length] 3, .blk g (evC e.n (.slice B L.length k) oo) 37]) (fun _ => True) ?_ ?_
  · rintro _ _
    repeat (first | refine WC.seq ?_ | refine WC.region ?_ | refine WC.block ?_ | refine WC.skip ?_ | refine WL.nil ?_ | with_reducible refine QE.then_n ?_ | refine WC.cond_f rfl ?_ | refine WL.move _ rfl (by decide) rfl ?_ | refine WL.assign _ rfl (by decide) rfl ?_ | refine WL.bin _ _ _ rfl (by decide) rfl rfl (fun _ => rfl) ?_ | refine WL.nilc _ rfl (by decide) rfl ?_ | refine WL.fd96_0 rfl (by decide) rfl ?_ | refine WL.ld68 0 rfl (by decide) rfl rfl rfl ?_)
    refine WC.loop (σ := Nat × Option Addr × Nat × List Int × Bool) (fun x => [(5, .int .i64 x.1), (0, .pointer (some ⟨cg, 0, none⟩)), (1, .pointer (some ⟨g, 6, none⟩)), (4, .pointer (some ⟨nb, 0, none⟩))])
      (fun x => [.blk cg [.pointer none, .slice x.2.1 x.2.2.2.1.length x.2.2.1, .bool x.2.2.2.2] 96, .row (.slice x.2.1 x.2.2.2.1.length x.2.2.1) 5 1 x.2.2.2.1.length (b8 x.2.2.2.1), .blk nb [.int .i64 L.length] 3, .blk g (evC e.n (.slice B L.length k) oo) 37])
      (fun x => x.1 ≤ L.length ∧ (x.2.2.2.2 = true ↔ N = true ∨ (L.take x.1).any notone = true) ∧ (x.2.2.2.2 = false → x.2.2.2.1 = out ++ (u8b L.length ++ (L.take x.1).flatMap u8b)) ∧ x.2.2.2.1.length = out.length + 1 + x.1 ∧ (0 < x.1 → L.length ≤ 32)) (fun x => L.length - x.1)
      (0, A1, c1, out ++ beB 1 L.length, N) ⟨Nat.zero_le _, by simp, fun _ => by simp [u8b, hw64], by simp [beB_len], fun h => absurd h (Nat.lt_irrefl 0)⟩ (.cons rfl (.cons rfl (.cons rfl (.cons rfl .nil)))) (.refl _) ?_
    rintro ⟨i, A2, c2, o, b⟩ ⟨h1, h2, h3, h4, h5⟩
    dsimp only at h1 h2 h3 h4 h5 ⊢
    repeat (first | refine WC.seq ?_ | refine WC.region ?_ | refine WL.move _ rfl (by decide) rfl ?_ | refine WL.bin _ _ _ rfl (by decide) rfl rfl (fun _ => rfl) ?_ | refine WL.ld3 2 rfl (by decide) rfl rfl rfl ?_)
    refine WL.split 29 _ rfl (fun hb => ?_) (fun hb => ?_)
    · have hb : (i : Int) < L.length := of_decide_eq_true hb
      repeat (refine WL.move _ rfl (by decide) rfl ?_)
      refine WL.call [] [] [pt cg] _ _ [.blk nb [.int .i64 L.length] 3, .blk g (evC e.n (.slice B L.length k) oo) 37] (stops_con (.w A2 c2 o b) cg) rfl (by decide) rfl Try.func58 rfl rfl rfl rfl (.refl _) (fun _ _ => trivial) ?_
      rintro r H1 ⟨rfl, rfl⟩
      simp only [carH, stopB, pt, List.cons_append, List.nil_append]
      cases b
      · repeat (first | refine WC.seq ?_ | refine WC.region ?_ | refine WC.block ?_ | refine WC.skip ?_ | refine WL.nil ?_ | with_reducible refine QE.then_n ?_ | refine WC.cond_t rfl ?_ | refine WL.un _ _ rfl (by decide) rfl (fun _ => rfl) ?_ | refine WL.pick _ _ rfl (by decide) rfl rfl ?_)
        have hNf : N = false := by
          cases hh : N with
          | false => rfl
          | true => have := h2.2 (.inl hh); simp at this
        have hany : (L.take i).any notone = false := by
          cases hh : (L.take i).any notone with
          | false => rfl
          | true => have := h2.2 (.inr hh); simp at this
        have h32 : L.length ≤ 32 := by
          have := hN.symm.trans hNf
          simp at this
          omega
        obtain ⟨x, hx⟩ : ∃ x, L[i]? = some x := ⟨_, List.getElem?_eq_getElem (by omega)⟩
        refine WL.alloc (.int .i64 0) [.int .i64 0] rfl (by decide) (fun w => by kernel_rfl) rfl (fun xb => ?_)
        repeat (first | refine WC.seq ?_ | refine WC.region ?_ | refine WL.nil ?_ | with_reducible refine QE.then_n ?_ | refine WC.cond_t rfl ?_ | refine WL.move _ rfl (by decide) rfl ?_ | refine WL.bin _ _ _ rfl (by decide) rfl rfl (fun _ => rfl) ?_ | refine WL.nilc _ rfl (by decide) rfl ?_ | refine WL.fd96_0 rfl (by decide) rfl ?_ | refine WL.ld68 1 rfl (by decide) rfl rfl rfl ?_ | refine WL.st3 0 rfl rfl rfl rfl rfl rfl rfl rfl rfl ?_)
        refine WL.ld25 4 rfl (by decide) rfl rfl rfl ?_
        repeat (refine WL.move _ rfl (by decide) rfl ?_)
        refine WL.idx 3 1 L.length k .i64 B (i : Int) rfl (by decide) rfl rfl Try.underlying25 size3 (by omega) hb (fun w hI => (hread hI).nil) (fun ad had => ?_)
        refine WL.le3 (v := .int .i64 x) rfl (by decide) rfl (fun w hI => (hread hI).cell had (i64s_at hx)) ?_
        repeat (first | refine WC.seq ?_ | refine WC.region ?_ | refine WL.move _ rfl (by decide) rfl ?_ | refine WL.st3 0 rfl rfl rfl rfl rfl rfl rfl rfl rfl ?_)
        refine WL.buildS 1 126 1 [(0, .pointer (some ⟨xb, 0, none⟩))] (ptrs xb [0]) rfl (by decide) rfl rfl rfl (fun w => by kernel_rfl) (fun gb2 => ?_)
        skip
        refine WL.call [] [] [pt cg, .slice (some ⟨gb2, 0, none⟩) 1 1] _ _ [.blk nb [.int .i64 L.length] 3, .blk g (evC e.n (.slice B L.length k) oo) 37] (small_con (.w A2 c2 o false) cg xb 3 gb2 [.int .i64 x] [0] (by decide) (by simp) (show o.length + 8 ≤ _ by omega)) rfl (by decide) rfl Try.func80 rfl rfl rfl rfl permF (fun _ _ => trivial) ?_
        rintro r H1 ⟨rfl, s', cs', hs, rfl⟩
        obtain ⟨v2, rfl, rfl, A3, c3, rfl⟩ := small_one hs
        simp only [carH, pt, List.cons_append, List.nil_append]
        repeat (first | refine WC.seq ?_ | refine WC.region ?_ | refine WC.skip ?_ | refine WL.nil ?_ | with_reducible refine QE.then_n ?_ | refine WC.cond_f rfl ?_ | refine WL.move _ rfl (by decide) rfl ?_ | refine WL.assign _ rfl (by decide) rfl ?_ | refine WL.bin _ _ _ rfl (by decide) rfl rfl (fun _ => rfl) ?_ | refine WL.nilc _ rfl (by decide) rfl ?_ | refine WL.off rfl (by decide) ?_ | refine WL.pick _ _ rfl (by decide) rfl rfl ?_ | refine WL.fd96_0 rfl (by decide) rfl ?_ | refine WL.ld68 0 rfl (by decide) rfl rfl rfl ?_)
        refine QE.round (i + 1, A3, c3, o ++ beB 1 (IntKind.u64.wrap v2), false || nofit 1 (IntKind.u64.wrap v2)) ⟨by dsimp only; omega, ?_, ?_, ?_, fun _ => h32⟩ (by dsimp only; omega) (.eq rfl (by congr 1; rw [wr_i64 (by omega) (by omega)]; simp) (.cons rfl (.cons rfl (.cons rfl .nil)))) (.cons_cons _ (.cons_cons _ (.cons _ (.refl _))))
        · simp [List.take_add_one, hx, hNf, hany, notone]
        · intro _
          simp only [h3 rfl, List.take_add_one, hx, List.flatMap_append, List.append_assoc]
          simp [u8b]
        · simp [beB_len]; omega
      · repeat (first | refine WC.exit ?_ | refine WL.nil ?_ | with_reducible refine QE.then_n ?_ | with_reducible refine QE.then_e ?_ | with_reducible refine QE.blk_hit ?_ | refine WC.cond_f rfl ?_ | refine WL.un _ _ rfl (by decide) rfl (fun _ => rfl) ?_ | refine WL.pick _ _ rfl (by decide) rfl rfl ?_)
        refine QE.end0 (carH cg (.w A2 c2 o true) ++ [.blk g (evC e.n (.slice B L.length k) oo) 37]) rfl (.cons_cons _ (.cons_cons _ (.cons _ (.refl _)))) ⟨rfl, A2, c2, o, true, rfl, ?_, ?_, fun h => by cases h⟩
        · rcases Nat.eq_zero_or_pos i with h | h
          · omega
          · have := h5 h; omega
        · refine ⟨fun _ => ?_, fun _ => rfl⟩
          rcases h2.1 rfl with h | h
          · rw [hN] at h; simp at h; rcases h with h | h; exact .inl h; exact .inr (.inl h)
          · exact .inr (.inr (any_take h))
    · have hb : ¬ (i : Int) < L.length := of_decide_eq_false hb
      obtain rfl : i = L.length := by omega
      rw [List.take_length] at h2 h3
      repeat (first | refine WC.exit ?_ | refine WL.nil ?_ | with_reducible refine QE.then_n ?_ | with_reducible refine QE.then_e ?_ | with_reducible refine QE.blk_hit ?_ | refine WC.cond_f rfl ?_ | refine WL.off rfl (by decide) ?_ | refine WL.pick _ _ rfl (by decide) rfl rfl ?_)
      refine QE.end0 (carH cg (.w A2 c2 o b) ++ [.blk g (evC e.n (.slice B L.length k) oo) 37]) rfl (.cons_cons _ (.cons_cons _ (.cons _ (.refl _)))) ⟨rfl, A2, c2, o, b, rfl, ?_, ?_, h3⟩
      · rcases Nat.eq_zero_or_pos L.length with h | h
        · omega
        · have := h5 h; omega
      · rw [h2, hN]; simp [or_assoc]
  · repeat (first | refine WC.seq ?_ | refine WC.region ?_ | refine WL.nil ?_ | with_reducible refine QE.then_n ?_ | refine WL.bin _ _ _ rfl (by decide) rfl rfl (fun _ => rfl) ?_ | refine WL.ld3 2 rfl (by decide) rfl rfl rfl ?_)
    refine WC.cond _ rfl (fun h => ?_) (fun h => ?_)
    · have h : (L.length : Int) > 32 := of_decide_eq_true h
      repeat (first | refine WC.region ?_ | refine WL.nil ?_ | refine WL.move _ rfl (by decide) rfl ?_ | refine WL.nilc _ rfl (by decide) rfl ?_ | refine WL.fd96_2 rfl (by decide) rfl ?_ | refine WL.st4 0 rfl rfl rfl rfl rfl rfl rfl rfl rfl ?_)
      refine QE.cut () trivial (.cons rfl (.cons rfl (.cons rfl .nil))) ?_
      rw [hN, decide_eq_true (by omega : 32 < L.length), Bool.or_true]
      exact .refl _
    · have h : ¬ (L.length : Int) > 32 := of_decide_eq_false h
      repeat (refine WC.skip ?_)
      refine QE.cut () trivial (.cons rfl (.cons rfl (.cons rfl .nil))) ?_
      rw [hN, decide_eq_false (by omega : ¬ 32 < L.length), show nofit 1 (L.length : Int) = false by
        cases hh : nofit 1 (L.length : Int) with
        | false => rfl
        | true => have := nofit_ge (by omega) hh; omega]
      exact .refl _

set_option maxHeartbeats 8000000 in
set_option maxRecDepth 100000 in
theorem list_w27 (A : Option Addr) (c : Nat) (out : List Int) (bad : Bool) (e : Ev) (oo : Value) (cg g : Nat) (B : Option Addr) (k : Nat) (L : List Int) (hL : L.length ≤ maxLen) (hr : Cod.room 300 (.w A c out bad)) :
    Con Try.prog 101 #[pt cg, .pointer (some ⟨g, 27, none⟩)] (carH cg (.w A c out bad) ++ [.blk g (evC e.n oo (.slice B L.length k)) 37]) (fun w => Rds w B L.length 1 (i64s L) ∧ Off (carH cg (.w A c out bad) ++ [.blk g (evC e.n oo (.slice B L.length k)) 37]) B)
      (fun r H' => r = .tuple #[] ∧ ∃ A' c' o b, H' = carH cg (.w A' c' o b) ++ [.blk g (evC e.n oo (.slice B L.length k)) 37] ∧ o.length ≤ out.length + 300 ∧ (b = true ↔ bad = true ∨ 32 < L.length ∨ L.any notone = true) ∧ (b = false → o = out ++ (u8b L.length ++ L.flatMap u8b))) := by
  refine Con.intro Try.func101 rfl Try.ntmps101 rfl (fun w hR => ?_)
  have hroom : out.length + 300 ≤ 140737488355328 := hr
  simp only [maxLen] at hL
  have hread : ∀ {H : List Ck} {w' : World}, I ⟨w, fps (carH cg (.w A c out bad) ++ [.blk g (evC e.n oo (.slice B L.length k)) 37])⟩ H w' → Rds w' B L.length 1 (i64s L) := fun hI => off_kept hR.1 hR.2 hI.kp rfl
  simp only [carH, pt, List.cons_append, List.nil_append] at hread ⊢
  repeat (first | refine WC.seq ?_ | refine WC.region ?_ | refine WL.move _ rfl (by decide) rfl ?_ | refine WL.nilc _ rfl (by decide) rfl ?_ | refine WL.ln25 rfl (by decide) rfl ?_ | refine WL.ld25 2 rfl (by decide) rfl rfl rfl ?_)
  refine WL.alloc (.int .i64 0) [.int .i64 0] rfl (by decide) (fun w => by kernel_rfl) rfl (fun nb => ?_)
  repeat (first | refine WC.seq ?_ | refine WC.region ?_ | refine WL.move _ rfl (by decide) rfl ?_ | refine WL.st3 0 rfl rfl rfl rfl rfl rfl rfl rfl rfl ?_)
  refine WL.buildS 1 126 1 [(0, .pointer (some ⟨nb, 0, none⟩))] (ptrs nb [0]) rfl (by decide) rfl rfl rfl (fun w => by kernel_rfl) (fun gb => ?_)
  skip
  refine WL.call [] [] [pt cg, .slice (some ⟨gb, 0, none⟩) 1 1] _ _ [.blk g (evC e.n oo (.slice B L.length k)) 37] (small_con (.w A c out bad) cg nb 3 gb [.int .i64 L.length] [0] (by decide) (by simp) (room_le hr (by decide))) rfl (by decide) rfl Try.func80 rfl rfl rfl rfl (permE _ _) (fun _ _ => trivial) ?_
  rintro r H1 ⟨rfl, s', cs', hs, rfl⟩
  obtain ⟨v1, rfl, rfl, A1, c1, rfl⟩ := small_one hs
  have hw64 : IntKind.u64.wrap (L.length : Int) = L.length := wr_u64 (by omega) (by omega)
  simp only [carH, pt, List.cons_append, List.nil_append, hw64]
  obtain ⟨N, hN⟩ : ∃ N : Bool, N = (bad || decide (32 < L.length)) := ⟨_, rfl⟩
  refine WC.cut (σ := Unit) (fun _ => [(0, .pointer (some ⟨cg, 0, none⟩)), (1, .pointer (some ⟨g, 27, none⟩)), (4, .pointer (some ⟨nb, 0, none⟩))])
    (fun _ => [.blk cg [.pointer none, .slice A1 (out ++ beB 1 L.length).length c1, .bool N] 96, .row (.slice A1 (out ++ beB 1 L.length).length c1) 5 1 (out ++ beB 1 L.length).length (b8 (out ++ beB 1 L.length)), .blk nb [.int .i64 L.length] 3, .blk g (evC e.n oo (.slice B L.length k)) 37]) (fun _ => True) ?_ ?_
  · rintro _ _
    repeat (first | refine WC.seq ?_ | refine WC.region ?_ | refine WC.block ?_ | refine WC.skip ?_ | refine WL.nil ?_ | with_reducible refine QE.then_n ?_ | refine WC.cond_f rfl ?_ | refine WL.move _ rfl (by decide) rfl ?_ | refine WL.assign _ rfl (by decide) rfl ?_ | refine WL.bin _ _ _ rfl (by decide) rfl rfl (fun _ => rfl) ?_ | refine WL.nilc _ rfl (by decide) rfl ?_ | refine WL.fd96_0 rfl (by decide) rfl ?_ | refine WL.ld68 0 rfl (by decide) rfl rfl rfl ?_)
    refine WC.loop (σ := Nat × Option Addr × Nat × List Int × Bool) (fun x => [(5, .int .i64 x.1), (0, .pointer (some ⟨cg, 0, none⟩)), (1, .pointer (some ⟨g, 27, none⟩)), (4, .pointer (some ⟨nb, 0, none⟩))])
      (fun x => [.blk cg [.pointer none, .slice x.2.1 x.2.2.2.1.length x.2.2.1, .bool x.2.2.2.2] 96, .row (.slice x.2.1 x.2.2.2.1.length x.2.2.1) 5 1 x.2.2.2.1.length (b8 x.2.2.2.1), .blk nb [.int .i64 L.length] 3, .blk g (evC e.n oo (.slice B L.length k)) 37])
      (fun x => x.1 ≤ L.length ∧ (x.2.2.2.2 = true ↔ N = true ∨ (L.take x.1).any notone = true) ∧ (x.2.2.2.2 = false → x.2.2.2.1 = out ++ (u8b L.length ++ (L.take x.1).flatMap u8b)) ∧ x.2.2.2.1.length = out.length + 1 + x.1 ∧ (0 < x.1 → L.length ≤ 32)) (fun x => L.length - x.1)
      (0, A1, c1, out ++ beB 1 L.length, N) ⟨Nat.zero_le _, by simp, fun _ => by simp [u8b, hw64], by simp [beB_len], fun h => absurd h (Nat.lt_irrefl 0)⟩ (.cons rfl (.cons rfl (.cons rfl (.cons rfl .nil)))) (.refl _) ?_
    rintro ⟨i, A2, c2, o, b⟩ ⟨h1, h2, h3, h4, h5⟩
    dsimp only at h1 h2 h3 h4 h5 ⊢
    repeat (first | refine WC.seq ?_ | refine WC.region ?_ | refine WL.move _ rfl (by decide) rfl ?_ | refine WL.bin _ _ _ rfl (by decide) rfl rfl (fun _ => rfl) ?_ | refine WL.ld3 2 rfl (by decide) rfl rfl rfl ?_)
    refine WL.split 29 _ rfl (fun hb => ?_) (fun hb => ?_)
    · have hb : (i : Int) < L.length := of_decide_eq_true hb
      repeat (refine WL.move _ rfl (by decide) rfl ?_)
      refine WL.call [] [] [pt cg] _ _ [.blk nb [.int .i64 L.length] 3, .blk g (evC e.n oo (.slice B L.length k)) 37] (stops_con (.w A2 c2 o b) cg) rfl (by decide) rfl Try.func58 rfl rfl rfl rfl (.refl _) (fun _ _ => trivial) ?_
      rintro r H1 ⟨rfl, rfl⟩
      simp only [carH, stopB, pt, List.cons_append, List.nil_append]
      cases b
      · repeat (first | refine WC.seq ?_ | refine WC.region ?_ | refine WC.block ?_ | refine WC.skip ?_ | refine WL.nil ?_ | with_reducible refine QE.then_n ?_ | refine WC.cond_t rfl ?_ | refine WL.un _ _ rfl (by decide) rfl (fun _ => rfl) ?_ | refine WL.pick _ _ rfl (by decide) rfl rfl ?_)
        have hNf : N = false := by
          cases hh : N with
          | false => rfl
          | true => have := h2.2 (.inl hh); simp at this
        have hany : (L.take i).any notone = false := by
          cases hh : (L.take i).any notone with
          | false => rfl
          | true => have := h2.2 (.inr hh); simp at this
        have h32 : L.length ≤ 32 := by
          have := hN.symm.trans hNf
          simp at this
          omega
        obtain ⟨x, hx⟩ : ∃ x, L[i]? = some x := ⟨_, List.getElem?_eq_getElem (by omega)⟩
        refine WL.alloc (.int .i64 0) [.int .i64 0] rfl (by decide) (fun w => by kernel_rfl) rfl (fun xb => ?_)
        repeat (first | refine WC.seq ?_ | refine WC.region ?_ | refine WL.nil ?_ | with_reducible refine QE.then_n ?_ | refine WC.cond_t rfl ?_ | refine WL.move _ rfl (by decide) rfl ?_ | refine WL.bin _ _ _ rfl (by decide) rfl rfl (fun _ => rfl) ?_ | refine WL.nilc _ rfl (by decide) rfl ?_ | refine WL.fd96_0 rfl (by decide) rfl ?_ | refine WL.ld68 1 rfl (by decide) rfl rfl rfl ?_ | refine WL.st3 0 rfl rfl rfl rfl rfl rfl rfl rfl rfl ?_)
        refine WL.ld25 4 rfl (by decide) rfl rfl rfl ?_
        repeat (refine WL.move _ rfl (by decide) rfl ?_)
        refine WL.idx 3 1 L.length k .i64 B (i : Int) rfl (by decide) rfl rfl Try.underlying25 size3 (by omega) hb (fun w hI => (hread hI).nil) (fun ad had => ?_)
        refine WL.le3 (v := .int .i64 x) rfl (by decide) rfl (fun w hI => (hread hI).cell had (i64s_at hx)) ?_
        repeat (first | refine WC.seq ?_ | refine WC.region ?_ | refine WL.move _ rfl (by decide) rfl ?_ | refine WL.st3 0 rfl rfl rfl rfl rfl rfl rfl rfl rfl ?_)
        refine WL.buildS 1 126 1 [(0, .pointer (some ⟨xb, 0, none⟩))] (ptrs xb [0]) rfl (by decide) rfl rfl rfl (fun w => by kernel_rfl) (fun gb2 => ?_)
        skip
        refine WL.call [] [] [pt cg, .slice (some ⟨gb2, 0, none⟩) 1 1] _ _ [.blk nb [.int .i64 L.length] 3, .blk g (evC e.n oo (.slice B L.length k)) 37] (small_con (.w A2 c2 o false) cg xb 3 gb2 [.int .i64 x] [0] (by decide) (by simp) (show o.length + 8 ≤ _ by omega)) rfl (by decide) rfl Try.func80 rfl rfl rfl rfl permF (fun _ _ => trivial) ?_
        rintro r H1 ⟨rfl, s', cs', hs, rfl⟩
        obtain ⟨v2, rfl, rfl, A3, c3, rfl⟩ := small_one hs
        simp only [carH, pt, List.cons_append, List.nil_append]
        repeat (first | refine WC.seq ?_ | refine WC.region ?_ | refine WC.skip ?_ | refine WL.nil ?_ | with_reducible refine QE.then_n ?_ | refine WC.cond_f rfl ?_ | refine WL.move _ rfl (by decide) rfl ?_ | refine WL.assign _ rfl (by decide) rfl ?_ | refine WL.bin _ _ _ rfl (by decide) rfl rfl (fun _ => rfl) ?_ | refine WL.nilc _ rfl (by decide) rfl ?_ | refine WL.off rfl (by decide) ?_ | refine WL.pick _ _ rfl (by decide) rfl rfl ?_ | refine WL.fd96_0 rfl (by decide) rfl ?_ | refine WL.ld68 0 rfl (by decide) rfl rfl rfl ?_)
        refine QE.round (i + 1, A3, c3, o ++ beB 1 (IntKind.u64.wrap v2), false || nofit 1 (IntKind.u64.wrap v2)) ⟨by dsimp only; omega, ?_, ?_, ?_, fun _ => h32⟩ (by dsimp only; omega) (.eq rfl (by congr 1; rw [wr_i64 (by omega) (by omega)]; simp) (.cons rfl (.cons rfl (.cons rfl .nil)))) (.cons_cons _ (.cons_cons _ (.cons _ (.refl _))))
        · simp [List.take_add_one, hx, hNf, hany, notone]
        · intro _
          simp only [h3 rfl, List.take_add_one, hx, List.flatMap_append, List.append_assoc]
          simp [u8b]
        · simp [beB_len]; omega
      · repeat (first | refine WC.exit ?_ | refine WL.nil ?_ | with_reducible refine QE.then_n ?_ | with_reducible refine QE.then_e ?_ | with_reducible refine QE.blk_hit ?_ | refine WC.cond_f rfl ?_ | refine WL.un _ _ rfl (by decide) rfl (fun _ => rfl) ?_ | refine WL.pick _ _ rfl (by decide) rfl rfl ?_)
        refine QE.end0 (carH cg (.w A2 c2 o true) ++ [.blk g (evC e.n oo (.slice B L.length k)) 37]) rfl (.cons_cons _ (.cons_cons _ (.cons _ (.refl _)))) ⟨rfl, A2, c2, o, true, rfl, ?_, ?_, fun h => by cases h⟩
        · rcases Nat.eq_zero_or_pos i with h | h
          · omega
          · have := h5 h; omega
        · refine ⟨fun _ => ?_, fun _ => rfl⟩
          rcases h2.1 rfl with h | h
          · rw [hN] at h; simp at h; rcases h with h | h; exact .inl h; exact .inr (.inl h)
          · exact .inr (.inr (any_take h))
    · have hb : ¬ (i : Int) < L.length := of_decide_eq_false hb
      obtain rfl : i = L.length := by omega
      rw [List.take_length] at h2 h3
      repeat (first | refine WC.exit ?_ | refine WL.nil ?_ | with_reducible refine QE.then_n ?_ | with_reducible refine QE.then_e ?_ | with_reducible refine QE.blk_hit ?_ | refine WC.cond_f rfl ?_ | refine WL.off rfl (by decide) ?_ | refine WL.pick _ _ rfl (by decide) rfl rfl ?_)
      refine QE.end0 (carH cg (.w A2 c2 o b) ++ [.blk g (evC e.n oo (.slice B L.length k)) 37]) rfl (.cons_cons _ (.cons_cons _ (.cons _ (.refl _)))) ⟨rfl, A2, c2, o, b, rfl, ?_, ?_, h3⟩
      · rcases Nat.eq_zero_or_pos L.length with h | h
        · omega
        · have := h5 h; omega
      · rw [h2, hN]; simp [or_assoc]
  · repeat (first | refine WC.seq ?_ | refine WC.region ?_ | refine WL.nil ?_ | with_reducible refine QE.then_n ?_ | refine WL.bin _ _ _ rfl (by decide) rfl rfl (fun _ => rfl) ?_ | refine WL.ld3 2 rfl (by decide) rfl rfl rfl ?_)
    refine WC.cond _ rfl (fun h => ?_) (fun h => ?_)
    · have h : (L.length : Int) > 32 := of_decide_eq_true h
      repeat (first | refine WC.region ?_ | refine WL.nil ?_ | refine WL.move _ rfl (by decide) rfl ?_ | refine WL.nilc _ rfl (by decide) rfl ?_ | refine WL.fd96_2 rfl (by decide) rfl ?_ | refine WL.st4 0 rfl rfl rfl rfl rfl rfl rfl rfl rfl ?_)
      refine QE.cut () trivial (.cons rfl (.cons rfl (.cons rfl .nil))) ?_
      rw [hN, decide_eq_true (by omega : 32 < L.length), Bool.or_true]
      exact .refl _
    · have h : ¬ (L.length : Int) > 32 := of_decide_eq_false h
      repeat (refine WC.skip ?_)
      refine QE.cut () trivial (.cons rfl (.cons rfl (.cons rfl .nil))) ?_
      rw [hN, decide_eq_false (by omega : ¬ 32 < L.length), show nofit 1 (L.length : Int) = false by
        cases hh : nofit 1 (L.length : Int) with
        | false => rfl
        | true => have := nofit_ge (by omega) hh; omega]
      exact .refl _
end Go.Proofs.Ytalafklnnohlgaa.Cod
