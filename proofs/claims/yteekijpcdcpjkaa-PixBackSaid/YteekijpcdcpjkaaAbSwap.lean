/-
  A WORLD IN WHICH EVERY BLOCK OF CELLS IS AS IT WAS: what was true of the state is true of it.
-/
import Derived.Test.YteekijpcdcpjkaaAbCode
import Derived.RangeFuncLeaves
import Derived.RangeFuncRecord
set_option linter.unusedVariables false
set_option linter.unusedSimpArgs false
namespace Go.Ab
open Go.RowKit (Below)

structure Swap (w w' : World) : Prop where
  cells : ∀ (B : Nat) (row : Array Value) (E : TypeId) (fz : Nat × Nat), w.heap[B]? = some (.cells row E fz) → w'.heap[B]? = some (.cells row E fz)
  size : w.heap.size ≤ w'.heap.size

theorem Swap.refl (w : World) : Swap w w := ⟨fun _ _ _ _ h => h, Nat.le_refl _⟩
theorem Swap.trans {a b c : World} (h : Swap a b) (g : Swap b c) : Swap a c := ⟨fun B row E fz e => g.cells B row E fz (h.cells B row E fz e), Nat.le_trans h.size g.size⟩
theorem Swap.put {w : World} {l : Nat} {o : Obj} (o' : Obj) (h : w.heap[l]? = some o) (ho : ∀ (row : Array Value) (E : TypeId) (fz : Nat × Nat), o ≠ .cells row E fz) : Swap w (w.putObj l o') := by
  refine ⟨fun B row E fz e => ?_, by simp⟩
  by_cases hB : B = l
  · subst hB; rw [h] at e; exact absurd (Option.some.inj e) (ho row E fz)
  · rw [World.putObj_heap_other hB]; exact e
theorem Swap.below {w w' : World} (h : Below w.heap.size w w') : Swap w w' := ⟨fun B row E fz e => (h.block B (heap_lt e)).trans e, h.size⟩

def Kx.on (k : Kx) (w' : World) : Kx := { k with w := w' }

theorem VRel.swap {w w' : World} (h : Swap w w') {O : Nat → Prop} : ∀ (t : Ty) (x : t.den) (cs : List Value), VRel w O t x cs → VRel w' O t x cs := by
  intro t
  induction t with
  | int k => intro x cs hv; exact hv
  | bool => intro x cs hv; exact hv
  | str => intro x cs hv; exact hv
  | unit => intro x cs hv; exact hv
  | pair a b iha ihb =>
    intro x cs hv
    obtain ⟨c1, c2, e, h1, h2⟩ := hv
    exact ⟨c1, c2, e, iha _ _ h1, ihb _ _ h2⟩
  | slice e ih =>
    intro x cs hv
    obtain ⟨a, cap, e1, h1, h2, h3⟩ := hv
    refine ⟨a, cap, e1, h1, h2, fun hx => ?_⟩
    obtain ⟨B, o, row, E, fz, e2, hO, hb, hs, hv⟩ := h3 hx
    exact ⟨B, o, row, E, fz, e2, hO, h.cells _ _ _ _ hb, hs, fun i hi => ih _ _ (hv i hi)⟩

section
variable {k : Kx} {w' : World} (h : Swap k.w w')
include h
theorem CRel.swap : ∀ {c : Cell} {v : Value}, CRel k c v → CRel (k.on w') c v := by
  intro c v hc
  cases c with
  | val t x => exact VRel.swap h t x _ hc
  | pptr t x off =>
    obtain ⟨B, o, row, E, fz, e1, hO, hb, hs, hv⟩ := hc
    exact ⟨B, o, row, E, fz, e1, hO, h.cells _ _ _ _ hb, hs, VRel.swap h _ _ _ hv⟩
  | clip e xs =>
    obtain ⟨a, e1, hv⟩ := hc
    exact ⟨a, e1, VRel.swap h _ _ _ hv⟩
  | _ => exact hc
theorem CRels.swap : ∀ {cs : List Cell} {vs : List Value}, CRels k cs vs → CRels (k.on w') cs vs := by
  intro cs
  induction cs with
  | nil => intro vs hc; exact hc
  | cons c cs ih =>
    intro vs hc
    obtain ⟨v, r, e, h1, h2⟩ := hc
    exact ⟨v, r, e, CRel.swap h h1, ih h2⟩
theorem PRel.swap {agg : Bool} {cs : List Cell} {v : Value} (hc : PRel k agg cs v) : PRel (k.on w') agg cs v := by
  unfold PRel at *
  cases agg with
  | true => obtain ⟨vs, e, hv⟩ := hc; exact ⟨vs, e, CRels.swap h hv⟩
  | false => obtain ⟨c, e, hv⟩ := hc; exact ⟨c, e, hv.imp id fun g => ⟨CRel.swap h g.1, g.2⟩⟩
theorem PRels.swap : ∀ {ps : List (Bool × List Cell)} {vs : List Value}, PRels k ps vs → PRels (k.on w') ps vs := by
  intro ps
  induction ps with
  | nil => intro vs hc; exact hc
  | cons c cs ih =>
    intro vs hc
    obtain ⟨v, r, e, h1, h2⟩ := hc
    exact ⟨v, r, e, PRel.swap h h1, ih h2⟩
theorem ARel.swap {a : AVal} {v : Value} (ha : ARel k a v) : ARel (k.on w') a v := by
  cases a with
  | one c => exact ha.imp id (CRel.swap h)
  | pure t x => obtain ⟨ht, vs, e, hv⟩ := ha; exact ⟨ht, vs, e, VRel.swap h _ _ _ hv⟩
  | agg cs => obtain ⟨vs, e, hv⟩ := ha; exact ⟨vs, e, CRels.swap h hv⟩
  | tup ps => obtain ⟨vs, e, hv⟩ := ha; exact ⟨vs, e, PRels.swap h hv⟩
theorem ARels.swap : ∀ {as : List AVal} {vs : List Value}, ARels k as vs → ARels (k.on w') as vs := by
  intro as
  induction as with
  | nil => intro vs hc; exact hc
  | cons c cs ih =>
    intro vs hc
    obtain ⟨v, r, e, h1, h2⟩ := hc
    exact ⟨v, r, e, ARel.swap h h1, ih h2⟩
theorem FRel.swap {fr : Fr} {tmps : Array Value} (hf : FRel k fr tmps) : FRel (k.on w') fr tmps := ⟨hf.1, fun i => ARel.swap h (hf.2 i)⟩
theorem BRel.swap {n : Nat} {b : Blk} (hb : BRel k n b) : BRel (k.on w') n b := by
  cases b with
  | arr e xs =>
    unfold BRel at *
    show match k.μ n with | .none => xs = [] | .at_ B o cap => _
    revert hb
    cases k.μ n with
    | none => intro hb; exact hb
    | at_ B o cap =>
      intro hb
      obtain ⟨row, E, fz, h1, h2, h3, h4, h5, h6⟩ := hb
      exact ⟨row, E, fz, h.cells _ _ _ _ h1, h2, h3, h4, h5, fun i hi => VRel.swap h _ _ _ (h6 i hi)⟩
  | var cs =>
    obtain ⟨B, row, E, fz, h1, h2, h3, h4⟩ := hb
    exact ⟨B, row, E, fz, h1, h.cells _ _ _ _ h2, h3, CRels.swap h h4⟩
theorem HRel.swap {N : Nat} (hk : HRel N k) : HRel N (k.on w') :=
  ⟨fun n b hb => BRel.swap h (hk.blk n b hb), hk.inj, fun B hB => ⟨(hk.low B hB).1, Nat.lt_of_lt_of_le (hk.low B hB).2 h.size⟩, fun B hB => by obtain ⟨row, E, fz, h1⟩ := hk.xlow B hB; exact ⟨row, E, fz, h.cells _ _ _ _ h1⟩, hk.xown, hk.names⟩
end

/-! ### a function's end -/
/-- the blocks that a range over a function has left are taken -/
structure Took (Bs : List Nat) (w w' : World) : Prop where
  os : w'.os = w.os
  tape : w'.tape = w.tape
  output : w'.output = w.output
  size : w'.heap.size = w.heap.size
  other : ∀ i : Nat, i ∉ Bs → w'.heap[i]? = w.heap[i]?
  swap : Swap w w'

theorem leaves_marks {P : Program} {fn : Func} {tmps : Array Value} {R : Ending → World → Prop} : ∀ (Bs : List Nat) (w : World), Bs.Nodup → (∀ B ∈ Bs, w.heap[B]? = some (.deferred (some []))) →
    (∀ w', Took Bs w w' → ∃ v, (results fn tmps).run P w' = .ok v w' ∧ R (.returned v) w') → LeavesInM Fence.wide 0 P fn tmps R (Bs.map Mark) .returning w := by
  intro Bs
  induction Bs with
  | nil =>
    intro w _ _ h
    exact h w ⟨rfl, rfl, rfl, rfl, fun _ _ => rfl, Swap.refl w⟩
  | cons B Bs ih =>
    intro w hnd hB h
    have hb := hB B (by simp)
    have hsw : Swap w (w.putObj B (.deferred none)) := Swap.put _ hb (by intro row E fz e; cases e)
    refine ⟨by simp, .inl ⟨B, w.putObj B (.deferred none), rfl, run_takeDeferred hb, ?_⟩⟩
    obtain ⟨h1, h2⟩ := List.nodup_cons.1 hnd
    refine ih _ h2 (fun C hC => ?_) fun w' hT => ?_
    · rw [World.putObj_heap_other (fun e => h1 (by rw [← e]; exact hC))]
      exact hB C (by simp [hC])
    · refine h w' ⟨hT.os, hT.tape, hT.output, by rw [hT.size, World.putObj_size], fun i hi => ?_, hsw.trans hT.swap⟩
      rw [hT.other i (fun e => hi (by simp [e])), World.putObj_heap_other (fun e => hi (by simp [e]))]

/-- What is true of a state, its marks taken. -/
theorem Rel.took {N : Nat} {k0 k : Kx} {σ : St} {a : Act} (h : Rel N k0 σ k a) {Bs : List Nat} (hds : a.defers = Bs.map Mark) (hBs : ∀ B ∈ Bs, N ≤ B ∧ k0.w.heap.size ≤ B ∧ ¬ k.O B ∧ k.w.heap[B]? = some (.deferred (some []))) {w' : World} (hT : Took Bs k.w w') :
    Rel N k0 σ (k.on w') { a with defers := [] } := by
  refine ⟨⟨h.hp, h.nx, HRel.swap hT.swap h.h, FRel.swap hT.swap h.f, ⟨fun B hB hlt => ?_, fun B hB hlt => h.ext.own B hB hlt, Nat.le_trans h.ext.size hT.swap.size, h.ext.u, h.ext.arr, h.ext.var, h.ext.x⟩, ?_, ?_, Marks.nil _ _ _⟩, h.u⟩
  · show w'.heap[B]? = _
    rw [hT.other B (fun e => by have := (hBs B e).2.1; omega)]
    exact h.ext.same B hB hlt
  · exact Nat.le_trans h.room hT.swap.size
  · refine h.below.trans ⟨hT.os, hT.tape, hT.output, hT.swap.size, fun B hB => hT.other B fun e => ?_⟩
    have := (hBs B e).1
    omega

/-- A call, from its body: the marks that are left among the deferred calls are taken. -/
theorem calls_of_wp_marks {P : Program} {f : FuncId} {fn : Func} {c : Code} {args : Array Value} {w : World} {R : Ending → World → Prop} (hf : P.funcs[f]? = some fn) (hb : fn.body = some c)
    (h : c.wpIn Fence.wide 0 P (bodyPostM Fence.wide 0 P fn R) { tmps := args ++ Array.replicate (fn.ntmps - args.size) undef, defers := [] } w) : Calls P f args w R :=
  callsIn_wide.1 (callsIn_of_wp_marks hf hb trivial h rfl)

end Go.Ab
