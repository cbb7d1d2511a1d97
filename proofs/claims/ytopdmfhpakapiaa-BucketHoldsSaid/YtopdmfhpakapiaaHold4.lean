/- BucketHolds: the walk out of what the arguments read as. No condition of its own. -/
import Derived.Test.YtopdmfhpakapiaaHold3
import Derived.Test.YtopdmfhpakapiaaX11
namespace Go.Proofs.Ytopdmfhpakapiaa
open Go.RowKit X Hold
set_option linter.unusedVariables false
theorem BucketHolds_walk {T : Type} {enc : TypeId × Value → T} (W : World) (cs : Array Value) (a : Option Addr) (len cap : Nat) (h0 : Opn enc Try.prog W 23 cs.toList) (h1 : Opn enc Try.prog W 29 [.slice a len cap]) :
    Calls Try.prog 4 #[.agg cs, .slice a len cap] W fun e W' => e = .returned (.bool true) ∧ Below W.heap.size W W' := by
  have hl : cs.toList.length = 2 := h0.len Try.underlying23 (by kernel_rfl)
  obtain ⟨l⟩ := cs
  match l, hl, h0 with
  | [x0, x1], _, h0 =>
    obtain ⟨c, e0, _⟩ := (h0.fld Try.underlying23 0 3 0 1 rfl rfl (by kernel_rfl)).int Try.underlying3
    obtain ⟨t, e1, _⟩ := (h0.fld Try.underlying23 1 2 1 1 rfl rfl (by kernel_rfl)).int Try.underlying2
    simp at e0 e1
    subst e0 e1
    rcases h1.sl (s := 3) Try.underlying29 (by kernel_rfl) with he | ⟨ad, len', cap', he, hlc, hcm, hi⟩
    · simp at he
      obtain ⟨rfl, rfl, rfl⟩ := he
      exact below_of (holds_con c t none 0 []) W ⟨rfl, (fun _ => rfl), (fun _ h => by cases h)⟩
    · simp at he
      obtain ⟨rfl, rfl, rfl⟩ := he
      obtain ⟨ms, rfl, hq⟩ := pick_list (fun i (p : Int × Int × Int) => ∀ j, j < 3 → W.cell? (ad.add (i * 3 + j)) = [Value.int .i64 p.1, .int .i64 p.2.1, .int .i64 p.2.2][j]?) len (fun i hil => by
        obtain ⟨cs', hl', hc', ho⟩ := hi i hil
        match cs', hl', hc', ho with
        | [y0, y1, y2], _, hc', ho =>
          obtain ⟨p0, e0, _⟩ := (ho.fld Try.underlying33 0 2 0 1 rfl rfl (by kernel_rfl)).int Try.underlying2
          obtain ⟨p1, e1, _⟩ := (ho.fld Try.underlying33 1 2 1 1 rfl rfl (by kernel_rfl)).int Try.underlying2
          obtain ⟨p2, e2, _⟩ := (ho.fld Try.underlying33 2 3 2 1 rfl rfl (by kernel_rfl)).int Try.underlying3
          simp at e0 e1 e2
          subst e0 e1 e2
          exact ⟨(p0, p1, p2), hc'⟩)
      exact below_of (holds_con c t (some ad) cap ms) W (rds_flat (f := fun p : Int × Int × Int => [Value.int .i64 p.1, .int .i64 p.2.1, .int .i64 p.2.2]) (fun _ => rfl) (by decide) ms hq)
end Go.Proofs.Ytopdmfhpakapiaa
