/- Events and rows in memory: read in an order drawn, owned, opened. No condition of its own. -/
import Derived.Test.YtalafklnnohlgaaCod16
namespace Go.Proofs.Ytalafklnnohlgaa.Cod
open Go.RowKit X Go.Proofs.YtalafklnnohlgaaW.PrintLast
open Oct hiding agg39 size39
set_option linter.unusedVariables false
set_option linter.unusedSimpArgs false

section
variable {P : Program} {E : Env} {N : Nat} {ops : Array Oper} {Q : Exit → Act → World → Prop} {m : List (Nat × Value)} {H : List Ck} {ty : TypeId} {pos : String} {af : Array Edge} {g : Option (Nat × Bool)} {d : Nat}
theorem WA.loadN {HS : List Ck} {ds : List Nat} {fuel : Nat} {ls : Array Bool} {t : TypeId} {x : Operand} (i : Nat) (l' : Array Bool) (ad : Addr) (n : Nat) (vs : List Value) (hi : ops[i]? = some ⟨some d, .load t x, ty, pos, af, g⟩) (hw : Wd ops m g = some true) (hd : d < N) (hs : HS.Sublist H) (hcb : takeB .any ops ds ls l' i = true) (hQ : Qp Q) (hx : ev m x = some (.pointer (some ad)))
    (ha : ∀ w, (isAgg t).run P w = .ok true w) (hz : ∀ w, (sizeOf t).run P w = .ok n w) (hn : vs.length = n) (hl : ∀ w, Oks E HS w → ∀ j u, vs[j]? = some u → w.cell? (ad.add j) = some u) (h : WA P E N ops Q HS ds fuel l' ((d, .agg vs.toArray) :: m) H) : WA P E N ops Q HS ds (fuel + 1) ls m H :=
  WA.held i l' _ hi hw hd hs hcb hQ (fun a w hF hS => by
    have hl := loadCells_list (P := P) (w := w) (ad := ad) vs 0 #[] (fun q u hq => by simpa using hl w hS q u hq)
    rw [hn] at hl
    simp only [execOp, hF.eval hx, Instr.loadAt, Instr.sureAddr, loadVar]
    simp [ha w, hz w, loadCells, hl]) h
end
theorem oks_row {E : Env} {HS : List Ck} {w : World} {k e s n : Nat} {A : Option Addr} {c : Nat} {xs : List Value} (hS : Oks E HS w) (hk : HS[k]? = some (.row (.slice A n c) e s n xs)) : Rds w A n s xs := by
  obtain ⟨A', c', he, h1, h2⟩ := own_form (hS.1 _ (List.mem_of_getElem? hk))
  cases he
  exact h2
theorem ok_mem {E : Env} {H : List Ck} {w : World} {m : Em} (h : ∀ q ∈ emR m, q ∈ H) (hI : I E H w) : EmOk w m := by
  obtain ⟨i, hi⟩ := List.getElem?_of_mem (h (.row m.st 3 1 m.e.nums.length (i64s m.e.nums)) (by simp [emR]))
  obtain ⟨j, hj⟩ := List.getElem?_of_mem (h (.row m.tt 3 1 m.e.mem.length (i64s m.e.mem)) (by simp [emR]))
  exact ok_rows i j hi hj hI
section
variable {T : Type} {enc : TypeId × Value → T} {W : World}
theorem evs_open {cs : List Value} (h : Opn enc Try.prog W 22 cs) : ∃ A, ∃ ms : List Em, ∃ c, cs = [.slice A ms.length c] ∧ (ms.length ≤ c ∧ c ≤ maxLen) ∧ Rds W A ms.length 29 (emsC ms) ∧ ∀ m ∈ ms, cellsOk m.e m.c6 m.c27 ∧ EvRd W m.e m.A6 m.A27 ∧ wfE m.e := by
  rcases h.sl (s := 29) Try.underlying22 (by kernel_rfl) with rfl | ⟨a, len, cap, rfl, hl, hm, hi⟩
  · exact ⟨none, [], 0, rfl, ⟨Nat.le_refl _, Nat.zero_le _⟩, ⟨rfl, (fun _ => rfl), (fun _ h => by cases h)⟩, fun _ h => by cases h⟩
  · obtain ⟨ms, rfl, hq⟩ := pick_list (fun i (m : Em) => (∀ j, j < 29 → W.cell? (a.add (i * 29 + j)) = (emC m)[j]?) ∧ (cellsOk m.e m.c6 m.c27 ∧ EvRd W m.e m.A6 m.A27 ∧ wfE m.e)) len (fun i hil => by
      obtain ⟨cs', hl', hc', ho⟩ := hi i hil
      obtain ⟨x, A6, c6, A27, c27, e0, k0, r0, w0⟩ := ev_open ho
      exact ⟨⟨x, A6, c6, A27, c27⟩, (by rw [e0] at hc'; exact hc'), k0, r0, w0⟩)
    refine ⟨some a, ms, cap, rfl, ⟨hl, hm⟩, rds_flat (w := W) (a := a) (s := 29) (f := emC) (fun _ => rfl) (by decide) ms (fun i p hp => (hq i p hp).1), fun m hm => ?_⟩
    obtain ⟨i, hi'⟩ := List.getElem?_of_mem hm
    exact (hq i m hi').2
end
end Go.Proofs.Ytalafklnnohlgaa.Cod
