/- BucketHolds: the functions that it calls, as contracts; max. No condition of its own. -/
import Derived.Test.YtopdmfhpakapiaaX10
import Derived.Test.YtopdmfhpakapiaaPureH
namespace Go.Proofs.Ytopdmfhpakapiaa.Hold
open Go.RowKit X Go.Proofs.YtopdmfhpakapiaaW.PrintLast
set_option linter.unusedVariables false

def same (v : Value) (H : List Ck) : Value → List Ck → Prop := fun u H' => u = v ∧ H' = H
theorem con_of {f : FuncId} {args : Array Value} {v : Value} (h : ∀ W, Calls Try.prog f args W fun e W' => e = .returned v ∧ Below W.heap.size W W') : Con Try.prog f args [] (fun _ => True) (same v []) := by
  intro w _ _ _
  refine (h w).mono ?_
  rintro e w' ⟨rfl, b⟩
  exact ⟨v, [], ⟨rfl, rfl⟩, rfl, ⟨(fun c hc => by cases hc), List.Pairwise.nil, (fun c hc => by cases hc), ⟨b.os, b.tape, b.output, b.size, fun k hk _ => b.block k hk⟩⟩⟩
def bk (c t : Int) : Value := .agg #[.int .i64 c, .int .i64 t]
theorem wakes_con : Con Try.prog 9 #[] [] (fun _ => True) (same (.bool true) []) := con_of (fun W => PChg.mainsheetlaw11_wakes.calls 9 true W (PChg.wakes_eq 9 (by decide)))
theorem check_con (c t : Int) : Con Try.prog 12 #[bk c t] [] (fun _ => True) (same (.int .i64 (if PChg.Rt c t then 0 else 210)) []) := con_of (fun W => PChg.bucket_Check.calls 9 c t _ W (PChg.Check_eq c t 9 (by decide)))
theorem dry_con (c t : Int) : Con Try.prog 13 #[bk c t] [] (fun _ => True) (same (.bool (PChg.dryB c t)) []) := con_of (fun W => PChg.bucket_Dry.calls 9 c t _ W (PChg.Dry_eq c t 9 (by decide)))
theorem pass_con (c t dt n : Int) : Con Try.prog 10 #[bk c t, .int .i64 dt, .int .i64 n] [] (fun _ => True) (same (.tuple #[bk (PChg.PassR c t dt n).1 (PChg.PassR c t dt n).2.1, .int .i64 (PChg.PassR c t dt n).2.2]) []) :=
  con_of (fun W => PChg.bucket_Pass.calls 9 c t dt n _ _ _ W (PChg.Pass_eq c t dt n 9 (by decide)))
theorem bound_con (p dt gap n : Int) : Con Try.prog 14 #[.int .i64 p, .int .i64 dt, .int .i64 gap, .int .i64 n] [] (fun _ => True) (same (.tuple #[.int .i64 (PChg.BoundR p dt gap n).1, .int .i64 (PChg.BoundR p dt gap n).2]) []) :=
  con_of (fun W => PChg.bucket_Bound.calls 9 p dt gap n _ _ W (PChg.Bound_eq p dt gap n 9 (by decide)))

def mxI (a b : Int) : Int := if b > a then b else a
theorem run_mx {P : Program} (w : World) (ts : Array TypeId) (ty : TypeId) (a b : Int) : (Builtin.max_ ts ty #[.int .i64 a, .int .i64 b]).run P w = .ok (.int .i64 (mxI a b)) w := by
  unfold mxI
  rfl
section
variable {P : Program} {E : Env} {N : Nat} {m : List (Nat × Value)} {H : List Ck} {Q : Exit → Act → World → Prop} {ops : Array Oper} {rest : List Oper} {HS : List Ck} {ds : List Nat} {fuel : Nat} {l : Array Bool}
variable {ty : TypeId} {pos : String} {af : Array Edge} {g : Option (Nat × Bool)} {d : Nat} {x y : Operand} {ts : Array TypeId}
theorem WA.mx (i : Nat) (l' : Array Bool) (a b : Int) (hx : ev m x = some (.int .i64 a)) (hy : ev m y = some (.int .i64 b)) (hi : ops[i]? = some ⟨some d, .call { callee := .builtin .max, args := #[x, y], argTypes := ts }, ty, pos, af, g⟩) (hw : Wd ops m g = some true) (hd : d < N) (hcb : anyB .any ops l l' i = true) (hQ : Qp Q)
    (h : WA P E N ops Q HS ds fuel l' ((d, .int .i64 (mxI a b)) :: m) H) : WA P E N ops Q HS ds (fuel + 1) l m H :=
  WA.val i l' _ hi hw hd hcb hQ (fun a' w hF => by
    simp only [execOp, resolve, invoke, List.map_toArray, List.map_cons, List.map_nil, hF.eval hx, hF.eval hy]
    simp [builtin, run_mx]) h
end
end Go.Proofs.Ytopdmfhpakapiaa.Hold
