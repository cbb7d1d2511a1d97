/- A small logic of states: a frame as a list of slots, memory as a list of blocks and rows; one rule for each kind of operation. No condition: every rule holds of every program. -/
import Derived.WalkKit
import Derived.KernelRfl
import Derived.OwnWalk
import Derived.Laws.OwnMore
import Derived.Laws.AppendOwn
import Derived.Laws.MakeOwn
import Derived.Below
import Derived.Deep.LoopGhost
namespace Go.Proofs.Ytalafklnnohlgaa.X
open Go.RowKit
set_option linter.unusedVariables false

/-! ### frames -/
def lk : List (Nat × Value) → Nat → Option Value
  | [], _ => none
  | (j, v) :: r, i => bif Nat.beq j i then some v else lk r i

structure Fr (N : Nat) (m : List (Nat × Value)) (a : Act) : Prop where
  size : a.tmps.size = N
  defers : a.defers = []
  get : ∀ i v, lk m i = some v → a.tmps[i]? = some v

def ev (m : List (Nat × Value)) : Operand → Option Value
  | .tmp t => lk m t
  | .const v => some v
  | .global g => some (.pointer (some ⟨g, 0, none⟩))
  | .func f => some (.func (.func f) #[] #[])

theorem Fr.eval {N : Nat} {m : List (Nat × Value)} {a : Act} (h : Fr N m a) {x : Operand} {v : Value} (hx : ev m x = some v) : a.eval x = v := by
  cases x with
  | tmp t =>
    have := h.get t v hx
    show a.tmps.getD t undef = v
    rw [Array.getD_eq_getD_getElem?, this]; rfl
  | const u => exact Option.some.inj hx
  | global g => exact Option.some.inj hx
  | func f => exact Option.some.inj hx

theorem Fr.put {N : Nat} {m : List (Nat × Value)} {a : Act} (h : Fr N m a) {d : Nat} (hd : d < N) (v : Value) : Fr N ((d, v) :: m) (a.put (some d) v) := by
  refine ⟨by simp [Act.put, h.size], h.defers, ?_⟩
  intro i u hi
  simp only [lk] at hi
  show (a.tmps.setIfInBounds d v)[i]? = some u
  by_cases hdi : d = i
  · subst hdi
    have : Nat.beq d d = true := by simp
    rw [this] at hi
    rw [Array.getElem?_setIfInBounds_self_of_lt (by rw [h.size]; exact hd)]
    simpa using hi
  · have : Nat.beq d i = false := by
      rw [Bool.eq_false_iff]; intro hh; exact hdi (Nat.eq_of_beq_eq_true hh)
    rw [this] at hi
    rw [Array.getElem?_setIfInBounds_ne hdi]
    exact h.get i u hi

theorem Fr.put_none {N : Nat} {m : List (Nat × Value)} {a : Act} (h : Fr N m a) (v : Value) : Fr N m (a.put none v) := h

def num0 : Nat → List Value → List (Nat × Value)
  | _, [] => []
  | i, v :: r => (i, v) :: num0 (i + 1) r

theorem lk_num0 (l : List Value) : ∀ (b i : Nat) (v : Value), lk (num0 b l) i = some v → b ≤ i ∧ l[i - b]? = some v := by
  induction l with
  | nil => intro b i v h; simp [num0, lk] at h
  | cons u r ih =>
    intro b i v h
    simp only [num0, lk] at h
    cases hb : Nat.beq b i with
    | true =>
      rw [hb] at h
      have := Nat.eq_of_beq_eq_true hb
      subst this
      simpa using h
    | false =>
      rw [hb] at h
      obtain ⟨h1, h2⟩ := ih (b + 1) i v h
      refine ⟨by omega, ?_⟩
      have : i - b = (i - (b + 1)) + 1 := by omega
      rw [this, List.getElem?_cons_succ]; exact h2

theorem Fr.init {N : Nat} {args : Array Value} (h : args.size ≤ N) : Fr N (num0 0 args.toList) { tmps := args ++ Array.replicate (N - args.size) undef, defers := [] } := by
  refine ⟨by simp; omega, rfl, ?_⟩
  intro i v hi
  obtain ⟨_, h2⟩ := lk_num0 _ _ _ _ hi
  simp only [Nat.sub_zero, Array.getElem?_toList] at h2
  have hlt : i < args.size := (Array.getElem?_eq_some_iff.1 h2).1
  show (args ++ Array.replicate (N - args.size) undef)[i]? = some v
  rw [Array.getElem?_append_left hlt]; exact h2

/-- Fewer slots. -/
theorem Fr.less {N : Nat} {m m' : List (Nat × Value)} {a : Act} (h : Fr N m a) (hm : ∀ i v, lk m' i = some v → lk m i = some v) : Fr N m' a := ⟨h.size, h.defers, fun i v hi => h.get i v (hm i v hi)⟩

/-- Are all the slots of m' in m with the same value? (each by 'rfl') -/
inductive Sub (m : List (Nat × Value)) : List (Nat × Value) → Prop
  | nil : Sub m []
  | cons {i : Nat} {v : Value} {r : List (Nat × Value)} : lk m i = some v → Sub m r → Sub m ((i, v) :: r)
theorem Sub.spec {m m' : List (Nat × Value)} (h : Sub m m') : ∀ i v, lk m' i = some v → lk m i = some v := by
  induction h with
  | nil => intro i v h; simp [lk] at h
  | @cons j u r hj _ ih =>
    intro i v h
    simp only [lk] at h
    cases hb : Nat.beq j i with
    | true => rw [hb] at h; have := Nat.eq_of_beq_eq_true hb; subst this; simp at h; subst h; exact hj
    | false => rw [hb] at h; exact ih i v h

/-! ### memory -/
inductive Ck where
  | blk (g : Nat) (cs : List Value) (t : TypeId)
  | row (v : Value) (e : TypeId) (s n : Nat) (xs : List Value)
  | obj (g : Nat) (o : Obj)

def Ck.fp : Ck → Option Nat
  | .blk g _ _ => some g
  | .row v _ _ _ _ => v.ownBlock
  | .obj g _ => some g

def Ck.ok (w : World) : Ck → Prop
  | .blk g cs t => w.heap[g]? = some (.cells cs.toArray t (0, 0))
  | .row v e s n xs => w.ownsRow 0 e s v n xs
  | .obj g o => w.heap[g]? = some o

structure Env where
  w0 : World
  F : Nat → Prop

structure Kept (E : Env) (w : World) : Prop where
  os : w.os = E.w0.os
  tape : w.tape = E.w0.tape
  output : w.output = E.w0.output
  size : E.w0.heap.size ≤ w.heap.size
  block : ∀ k, k < E.w0.heap.size → ¬ E.F k → w.heap[k]? = E.w0.heap[k]?

def Apart (c d : Ck) : Prop := ∀ k, c.fp = some k → d.fp ≠ some k

structure I (E : Env) (H : List Ck) (w : World) : Prop where
  ok : ∀ c ∈ H, c.ok w
  dj : H.Pairwise Apart
  nw : ∀ c ∈ H, ∀ k, c.fp = some k → E.F k ∨ E.w0.heap.size ≤ k
  kp : Kept E w

theorem Ck.lt {c : Ck} {w : World} (h : c.ok w) {k : Nat} (hk : c.fp = some k) : k < w.heap.size := by
  cases c with
  | blk g cs t => simp only [Ck.fp, Option.some.injEq] at hk; subst hk; exact (Array.getElem?_eq_some_iff.1 h).1
  | obj g o => simp only [Ck.fp, Option.some.injEq] at hk; subst hk; exact (Array.getElem?_eq_some_iff.1 h).1
  | row v e s n xs =>
    rcases h.2 with ⟨rfl, _⟩ | ⟨g, cap, cur, rfl, hg, hh, r⟩
    · simp [Ck.fp, Value.ownBlock] at hk
    · simp only [Ck.fp, Value.ownBlock, Option.some.injEq] at hk; subst hk; exact (Array.getElem?_eq_some_iff.1 hh).1

/-- What stands in a chunk stands as long as its block does. -/
theorem Ck.move {c : Ck} {w w' : World} (h : c.ok w) (hm : ∀ k, c.fp = some k → w'.heap[k]? = w.heap[k]?) : c.ok w' := by
  cases c with
  | blk g cs t => exact (hm g rfl).trans h
  | obj g o => exact (hm g rfl).trans h
  | row v e s n xs =>
    refine ⟨h.1, ?_⟩
    rcases h.2 with h2 | ⟨g, cap, cur, rfl, hg, hh, r⟩
    · exact .inl h2
    · exact .inr ⟨g, cap, cur, rfl, hg, (hm g rfl).trans hh, r⟩

def noFp : Nat → Prop := fun _ => False
def fps (H : List Ck) : Nat → Prop := fun k => ∃ c ∈ H, c.fp = some k

theorem Kept.refl (w : World) (F : Nat → Prop) : Kept ⟨w, F⟩ w := ⟨rfl, rfl, rfl, Nat.le_refl _, fun _ _ _ => rfl⟩

theorem Kept.grown {E : Env} {w w' : World} {row : Option Nat} (h : Kept E w) (hg : w.grownBy w' row) (hr : ∀ k, row = some k → E.F k ∨ E.w0.heap.size ≤ k) : Kept E w' :=
  ⟨hg.os.trans h.os, hg.tape.trans h.tape, hg.output.trans h.output, Nat.le_trans h.size hg.size, fun k hk hF => by
    rw [hg.block k (Nat.lt_of_lt_of_le hk h.size) (fun e => by rcases hr k e.symm with h1 | h1; exact hF h1; omega)]
    exact h.block k hk hF⟩

/-- Nothing that stood has changed. -/
theorem I.same {E : Env} {H : List Ck} {w w' : World} (h : I E H w) (hg : w.grownBy w' none) : I E H w' :=
  ⟨fun c hc => Ck.move (h.ok c hc) (fun k hk => hg.block k (Ck.lt (h.ok c hc) hk) (by simp)), h.dj, h.nw, h.kp.grown hg (by simp)⟩

/-- Something new beside it. -/
theorem I.add {E : Env} {H : List Ck} {w w' : World} {c : Ck} (h : I E H w) (hg : w.grownBy w' none) (hc : c.ok w') (hf : ∀ k, c.fp = some k → w.heap.size ≤ k) : I E (c :: H) w' := by
  have h' := h.same hg
  refine ⟨?_, ?_, ?_, h'.kp⟩
  · intro d hd; rcases List.mem_cons.1 hd with rfl | hd
    · exact hc
    · exact h'.ok d hd
  · refine List.pairwise_cons.2 ⟨fun d hd k hk e => ?_, h.dj⟩
    have := Ck.lt (h.ok d hd) e
    have := hf k hk
    omega
  · intro d hd k hk; rcases List.mem_cons.1 hd with rfl | hd
    · exact .inr (Nat.le_trans h.kp.size (hf k hk))
    · exact h.nw d hd k hk

/-- One chunk has changed; its new place is the old one, or new. -/
theorem I.change {E : Env} {H : List Ck} {w w' : World} {c c' : Ck} {i : Nat} (h : I E H w) (hi : H[i]? = some c) (hg : w.grownBy w' c.fp) (hc : c'.ok w') (hf : ∀ k, c'.fp = some k → c.fp = some k ∨ w.heap.size ≤ k) : I E (H.set i c') w' := by
  have hmem : c ∈ H := List.mem_of_getElem? hi
  have hlt : i < H.length := (List.getElem?_eq_some_iff.1 hi).1
  have hk' : Kept E w' := h.kp.grown hg (fun k hk => h.nw c hmem k hk)
  have hap : ∀ j d, j ≠ i → H[j]? = some d → (∀ k, c.fp = some k → d.fp ≠ some k) := by
    intro j d hj hd k hk e
    have hjl : j < H.length := (List.getElem?_eq_some_iff.1 hd).1
    have e1 : H[i] = c := by have := (List.getElem?_eq_some_iff.1 hi).2; exact this
    have e2 : H[j] = d := (List.getElem?_eq_some_iff.1 hd).2
    rcases Nat.lt_or_ge i j with hij | hij
    · have := List.pairwise_iff_getElem.1 h.dj i j hlt hjl hij k (by rw [e1]; exact hk)
      rw [e2] at this; exact this e
    · have := List.pairwise_iff_getElem.1 h.dj j i hjl hlt (by omega) k (by rw [e2]; exact e)
      rw [e1] at this; exact this hk
  have hoth : ∀ j d, j ≠ i → H[j]? = some d → d.ok w' := fun j d hj hd => by
    have hdm := List.mem_of_getElem? hd
    refine Ck.move (h.ok d hdm) (fun k hk => hg.block k (Ck.lt (h.ok d hdm) hk) (fun e => ?_))
    exact hap j d hj hd k e.symm hk
  have hget : ∀ j d, (H.set i c')[j]? = some d → (j = i ∧ d = c') ∨ (j ≠ i ∧ H[j]? = some d) := by
    intro j d hd
    by_cases hj : j = i
    · subst hj; rw [List.getElem?_set_self (by simpa using hlt)] at hd; exact .inl ⟨rfl, (Option.some.inj hd).symm⟩
    · rw [List.getElem?_set_ne (by omega)] at hd; exact .inr ⟨hj, hd⟩
  refine ⟨?_, ?_, ?_, hk'⟩
  · intro d hd
    obtain ⟨j, hj⟩ := List.getElem?_of_mem hd
    rcases hget j d hj with ⟨_, rfl⟩ | ⟨h1, h2⟩
    · exact hc
    · exact hoth j d h1 h2
  · refine List.pairwise_iff_getElem.2 fun p q hp hq hpq => ?_
    have gp := hget p _ (List.getElem?_eq_getElem hp)
    have gq := hget q _ (List.getElem?_eq_getElem hq)
    have fresh : ∀ j d, j ≠ i → H[j]? = some d → ∀ k, c'.fp = some k → d.fp ≠ some k := by
      intro j d hj hd k hk e
      rcases hf k hk with h1 | h1
      · exact hap j d hj hd k h1 e
      · have := Ck.lt (h.ok d (List.mem_of_getElem? hd)) e; omega
    intro k hk e
    rcases gp with ⟨rfl, ep⟩ | ⟨np, ep⟩
    · rcases gq with ⟨rfl, eq⟩ | ⟨nq, eq⟩
      · omega
      · rw [ep] at hk; exact fresh q _ nq eq k hk e
    · rcases gq with ⟨rfl, eq⟩ | ⟨nq, eq⟩
      · rw [eq] at e; exact fresh p _ np ep k e hk
      · have hp' : p < H.length := by simpa using hp
        have hq' : q < H.length := by simpa using hq
        have ep' : H[p] = (H.set i c')[p] := (List.getElem?_eq_some_iff.1 ep).2
        have eq' : H[q] = (H.set i c')[q] := (List.getElem?_eq_some_iff.1 eq).2
        exact List.pairwise_iff_getElem.1 h.dj p q hp' hq' hpq k (by rw [ep']; exact hk) (by rw [eq']; exact e)
  · intro d hd k hk
    obtain ⟨j, hj⟩ := List.getElem?_of_mem hd
    rcases hget j d hj with ⟨_, rfl⟩ | ⟨h1, h2⟩
    · rcases hf k hk with h3 | h3
      · exact h.nw c hmem k h3
      · exact .inr (Nat.le_trans h.kp.size h3)
    · exact h.nw d (List.mem_of_getElem? h2) k hk

theorem I.sub {E : Env} {H H' : List Ck} {w : World} (h : I E H w) (hs : H'.Sublist H) : I E H' w :=
  ⟨fun c hc => h.ok c (hs.subset hc), h.dj.sublist hs, fun c hc => h.nw c (hs.subset hc), h.kp⟩
theorem Apart.symm {c d : Ck} (h : Apart c d) : Apart d c := fun k hk e => h k e hk
theorem I.perm {E : Env} {H H' : List Ck} {w : World} (h : I E H w) (hs : H'.Perm H) : I E H' w :=
  ⟨fun c hc => h.ok c (hs.subset hc), (hs.pairwise_iff (fun h => Apart.symm h)).2 h.dj, fun c hc => h.nw c (hs.subset hc), h.kp⟩

theorem I.refl {H : List Ck} {w : World} (h : ∀ c ∈ H, c.ok w) (d : H.Pairwise Apart) : I ⟨w, fps H⟩ H w := ⟨h, d, fun c hc k hk => .inl ⟨c, hc, hk⟩, Kept.refl w _⟩

/-- THE FRAME: what a part has become, beside what was left alone. -/
theorem I.frame {E : Env} {H1 H1' Hf : List Ck} {w w' : World} (h : I E (H1 ++ Hf) w) (h' : I ⟨w, fps H1⟩ H1' w') : I E (H1' ++ Hf) w' := by
  have hp := List.pairwise_append.1 h.dj
  have hfar : ∀ d ∈ Hf, ∀ k, d.fp = some k → w'.heap[k]? = w.heap[k]? := by
    intro d hd k hk
    refine h'.kp.block k (Ck.lt (h.ok d (List.mem_append_right _ hd)) hk) ?_
    rintro ⟨c, hc, hck⟩
    exact hp.2.2 c hc d hd k hck hk
  refine ⟨?_, ?_, ?_, ?_⟩
  · intro c hc; rcases List.mem_append.1 hc with hc | hc
    · exact h'.ok c hc
    · exact Ck.move (h.ok c (List.mem_append_right _ hc)) (hfar c hc)
  · refine List.pairwise_append.2 ⟨h'.dj, hp.2.1, fun c hc d hd k hk e => ?_⟩
    rcases h'.nw c hc k hk with ⟨b, hb, hbk⟩ | hn
    · exact hp.2.2 b hb d hd k hbk e
    · have := Ck.lt (h.ok d (List.mem_append_right _ hd)) e
      have hn' : w.heap.size ≤ k := hn
      omega
  · intro c hc k hk; rcases List.mem_append.1 hc with hc | hc
    · rcases h'.nw c hc k hk with ⟨b, hb, hbk⟩ | hn
      · exact h.nw b (List.mem_append_left _ hb) k hbk
      · exact .inr (Nat.le_trans h.kp.size hn)
    · exact h.nw c (List.mem_append_right _ hc) k hk
  · refine ⟨h'.kp.os.trans h.kp.os, h'.kp.tape.trans h.kp.tape, h'.kp.output.trans h.kp.output, Nat.le_trans h.kp.size h'.kp.size, fun k hk hF => ?_⟩
    rw [h'.kp.block k (Nat.lt_of_lt_of_le hk h.kp.size) ?_]
    · exact h.kp.block k hk hF
    · rintro ⟨b, hb, hbk⟩
      rcases h.nw b (List.mem_append_left _ hb) k hbk with h1 | h1
      · exact hF h1
      · omega

/-! ### code -/
section
variable {P : Program} {E : Env} {N : Nat} {m : List (Nat × Value)} {H : List Ck}

def QE (E : Env) (N : Nat) (Q : Exit → Act → World → Prop) (e : Exit) (m : List (Nat × Value)) (H : List Ck) : Prop := ∀ a w, Fr N m a → I E H w → Q e a w
def WC (P : Program) (E : Env) (N : Nat) (Q : Exit → Act → World → Prop) (m : List (Nat × Value)) (H : List Ck) (c : Code) : Prop := ∀ a w, Fr N m a → I E H w → c.wp P Q a w
def WL (P : Program) (E : Env) (N : Nat) (ops : Array Oper) (Q : Exit → Act → World → Prop) (m : List (Nat × Value)) (H : List Ck) (l : List Oper) : Prop := ∀ a w, Fr N m a → I E H w → wpList P ops Q l a w

variable {Q : Exit → Act → World → Prop} {ops : Array Oper} {rest : List Oper}

theorem WC.less {c : Code} (m' : List (Nat × Value)) (hs : Sub m m') (h : WC P E N Q m' H c) : WC P E N Q m H c := fun a w hF hI => h a w (hF.less hs.spec) hI
theorem WC.sub {c : Code} (H' : List Ck) (hs : H'.Sublist H) (h : WC P E N Q m H' c) : WC P E N Q m H c := fun a w hF hI => h a w hF (hI.sub hs)
theorem WC.perm {c : Code} (H' : List Ck) (hs : H'.Perm H) (h : WC P E N Q m H' c) : WC P E N Q m H c := fun a w hF hI => h a w hF (hI.perm hs)
theorem QE.less {e : Exit} (m' : List (Nat × Value)) (hs : Sub m m') (h : QE E N Q e m' H) : QE E N Q e m H := fun a w hF hI => h a w (hF.less hs.spec) hI
theorem QE.sub {e : Exit} (H' : List Ck) (hs : H'.Sublist H) (h : QE E N Q e m H') : QE E N Q e m H := fun a w hF hI => h a w hF (hI.sub hs)

theorem WC.seq {x y : Code} (h : WC P E N (Exit.then (y.wp P Q) Q) m H x) : WC P E N Q m H (.seq x y) := fun a w hF hI => wp_seq (h a w hF hI)
theorem WC.block {id : Nat} {c : Code} (h : WC P E N (Exit.inBlock id Q) m H c) : WC P E N Q m H (.block id c) := fun a w hF hI => wp_block (h a w hF hI)
theorem WC.region {id : Nat} {l : List Oper} (h : WL P E N l.toArray Q m H l) : WC P E N Q m H (.region id l.toArray false) := fun a w hF hI => wp_region_lit (h a w hF hI)
theorem WC.skip (h : QE E N Q .normal m H) : WC P E N Q m H .skip := fun a w hF hI => wp_skip (h a w hF hI)
theorem WC.exit {id : Nat} (h : QE E N Q (.exit id) m H) : WC P E N Q m H (.exit id) := fun a w hF hI => wp_exit (h a w hF hI)
theorem WC.ret (h : QE E N Q .ret m H) : WC P E N Q m H .ret := fun a w hF hI => wp_ret (h a w hF hI)
theorem WC.cond {c : Operand} {x y : Code} (b : Bool) (hc : ev m c = some (.bool b)) (ht : b = true → WC P E N Q m H x) (hf : b = false → WC P E N Q m H y) : WC P E N Q m H (.cond c x y) :=
  fun a w hF hI => wp_cond_split (hF.eval hc) (fun e => ht e a w hF hI) (fun e => hf e a w hF hI)
theorem WC.cond_t {c : Operand} {x y : Code} (hc : ev m c = some (.bool true)) (h : WC P E N Q m H x) : WC P E N Q m H (.cond c x y) := fun a w hF hI => wp_cond_true (hF.eval hc) (h a w hF hI)
theorem WC.cond_f {c : Operand} {x y : Code} (hc : ev m c = some (.bool false)) (h : WC P E N Q m H y) : WC P E N Q m H (.cond c x y) := fun a w hF hI => wp_cond_false (hF.eval hc) (h a w hF hI)
theorem WL.nil (h : QE E N Q .normal m H) : WL P E N ops Q m H [] := fun a w hF hI => wpList_nil (h a w hF hI)

theorem QE.then_n {y : Code} {Q0 : Exit → Act → World → Prop} (h : WC P E N Q m H y) : QE E N (Exit.then (y.wp P Q) Q0) .normal m H := fun a w hF hI => h a w hF hI
theorem QE.then_e {K : Act → World → Prop} {id : Nat} (h : QE E N Q (.exit id) m H) : QE E N (Exit.then K Q) (.exit id) m H := fun a w hF hI => h a w hF hI
theorem QE.then_r {K : Act → World → Prop} (h : QE E N Q .ret m H) : QE E N (Exit.then K Q) .ret m H := fun a w hF hI => h a w hF hI
theorem QE.blk_n {id : Nat} (h : QE E N Q .normal m H) : QE E N (Exit.inBlock id Q) .normal m H := fun a w hF hI => h a w hF hI
theorem QE.blk_r {id : Nat} (h : QE E N Q .ret m H) : QE E N (Exit.inBlock id Q) .ret m H := fun a w hF hI => h a w hF hI
theorem QE.blk_hit {id : Nat} (h : QE E N Q .normal m H) : QE E N (Exit.inBlock id Q) (.exit id) m H := fun a w hF hI => by
  show (if id = id then Q .normal a w else Q (.exit id) a w)
  rw [if_pos rfl]; exact h a w hF hI
theorem QE.blk_miss {id id' : Nat} (hne : (Nat.beq id' id) = false) (h : QE E N Q (.exit id') m H) : QE E N (Exit.inBlock id Q) (.exit id') m H := fun a w hF hI => by
  show (if id' = id then Q .normal a w else Q (.exit id') a w)
  rw [if_neg (fun e => by subst e; simp at hne)]; exact h a w hF hI

/-- A loop: its state x, with a measure. -/
theorem WC.loop {σ : Type} {c : Code} (mf : σ → List (Nat × Value)) (Hf : σ → List Ck) (ok : σ → Prop) (μ : σ → Nat) (x0 : σ) (h0 : ok x0) (hm : Sub m (mf x0)) (hH : (Hf x0).Sublist H)
    (round : ∀ x, ok x → WC P E N (Exit.then (fun a w => ∃ y, ok y ∧ μ y < μ x ∧ Fr N (mf y) a ∧ I E (Hf y) w) Q) (mf x) (Hf x) c) : WC P E N Q m H (.loop c) := by
  intro a w hF hI
  refine wp_loop_ghost (fun n a w => ∃ x, μ x = n ∧ ok x ∧ Fr N (mf x) a ∧ I E (Hf x) w) (μ x0) ⟨x0, rfl, h0, hF.less hm.spec, hI.sub hH⟩ ?_
  rintro n a w ⟨x, rfl, hx, hF, hI⟩
  refine wp_mono (round x hx a w hF hI) ?_
  intro e a' w' hq
  cases e with
  | normal => obtain ⟨y, hy, hlt, hF', hI'⟩ := hq; exact ⟨μ y, hlt, y, rfl, hy, hF', hI'⟩
  | exit id => exact hq
  | goto l => exact hq
  | ret => exact hq
  | panic ch => exact hq
  | outgrown => exact hq
theorem QE.round {σ : Type} {mf : σ → List (Nat × Value)} {Hf : σ → List Ck} {ok : σ → Prop} {μ : σ → Nat} {b : Nat} (y : σ) (hy : ok y) (hlt : μ y < b) (hm : Sub m (mf y)) (hH : (Hf y).Sublist H) :
    QE E N (Exit.then (fun a w => ∃ y, ok y ∧ μ y < b ∧ Fr N (mf y) a ∧ I E (Hf y) w) Q) .normal m H := fun a w hF hI => ⟨y, hy, hlt, hF.less hm.spec, hI.sub hH⟩
end

/-! ### calls -/
/-- A CONTRACT: from the chunks H1, where R holds: it returns v, and leaves chunks, as C says; nothing else that was there has changed. -/
def Con (P : Program) (f : FuncId) (args : Array Value) (H1 : List Ck) (R : World → Prop) (C : Value → List Ck → Prop) : Prop :=
  ∀ w, (∀ c ∈ H1, c.ok w) → H1.Pairwise Apart → R w → Calls P f args w fun e w' => ∃ v H1', C v H1' ∧ e = .returned v ∧ I ⟨w, fps H1⟩ H1' w'

def Post (E : Env) (C : Value → List Ck → Prop) : Ending → World → Prop := fun e w' => ∃ v H1', C v H1' ∧ e = .returned v ∧ I E H1' w'

theorem Con.intro {P : Program} {f : FuncId} {fn : Func} {c : Code} {args : Array Value} {H1 : List Ck} {R : World → Prop} {C : Value → List Ck → Prop} {N : Nat}
    (hf : P.funcs[f]? = some fn) (hb : fn.body = some c) (hN : fn.ntmps = N) (hsz : Nat.ble args.size N = true)
    (h : ∀ w, R w → WC P ⟨w, fps H1⟩ N (bodyPost P fn (Post ⟨w, fps H1⟩ C)) (num0 0 args.toList) H1 c) : Con P f args H1 R C := by
  intro w hok hd hR
  refine calls_of_wp hf hb ?_
  rw [hN]
  exact h w hR _ w (Fr.init (Nat.le_of_ble_eq_true hsz)) (I.refl hok hd)

section
variable {P : Program} {E : Env} {N : Nat} {m : List (Nat × Value)} {H : List Ck} {fn : Func} {C : Value → List Ck → Prop}
theorem QE.ret1 {t : Tmp} (v : Value) (H' : List Ck) (hr : fn.results = #[.tmp t]) (hv : lk m t = some v) (hH : H'.Sublist H) (hC : C v H') : QE E N (bodyPost P fn (Post E C)) .ret m H := fun a w hF hI =>
  ⟨hF.defers, v, by rw [results_tmp hr]; have := hF.get t v hv; rw [Array.getD_eq_getD_getElem?, this]; rfl, v, H', hC, rfl, hI.sub hH⟩
theorem QE.ret2 {t u : Tmp} (v v2 : Value) (H' : List Ck) (hr : fn.results = #[.tmp t, .tmp u]) (hv : lk m t = some v) (hu : lk m u = some v2) (hH : H'.Sublist H) (hC : C (.tuple #[v, v2]) H') : QE E N (bodyPost P fn (Post E C)) .ret m H := fun a w hF hI =>
  ⟨hF.defers, .tuple #[v, v2], by
    rw [results_tmp2 hr]; have h1 := hF.get t v hv; have h2 := hF.get u v2 hu
    rw [Array.getD_eq_getD_getElem?, Array.getD_eq_getD_getElem?, h1, h2]; rfl, _, H', hC, rfl, hI.sub hH⟩
theorem QE.ret3 {t u s : Tmp} (v v2 v3 : Value) (H' : List Ck) (hr : fn.results = #[.tmp t, .tmp u, .tmp s]) (hv : lk m t = some v) (hu : lk m u = some v2) (hs : lk m s = some v3) (hH : H'.Sublist H) (hC : C (.tuple #[v, v2, v3]) H') : QE E N (bodyPost P fn (Post E C)) .ret m H := fun a w hF hI =>
  ⟨hF.defers, .tuple #[v, v2, v3], by
    rw [results_tmp3 hr]; have h1 := hF.get t v hv; have h2 := hF.get u v2 hu; have h3 := hF.get s v3 hs
    rw [Array.getD_eq_getD_getElem?, Array.getD_eq_getD_getElem?, Array.getD_eq_getD_getElem?, h1, h2, h3]; rfl, _, H', hC, rfl, hI.sub hH⟩
theorem QE.ret0 (H' : List Ck) (hr : fn.results = #[]) (hH : H'.Sublist H) (hC : C (.tuple #[]) H') : QE E N (bodyPost P fn (Post E C)) .ret m H := fun a w hF hI =>
  ⟨hF.defers, .tuple #[], results_none hr _ _ _, _, H', hC, rfl, hI.sub hH⟩
theorem QE.end0 (H' : List Ck) (hr : fn.results = #[]) (hH : H'.Sublist H) (hC : C (.tuple #[]) H') : QE E N (bodyPost P fn (Post E C)) .normal m H := fun a w hF hI =>
  ⟨hF.defers, .tuple #[], results_none hr _ _ _, _, H', hC, rfl, hI.sub hH⟩
end
end Go.Proofs.Ytalafklnnohlgaa.X
