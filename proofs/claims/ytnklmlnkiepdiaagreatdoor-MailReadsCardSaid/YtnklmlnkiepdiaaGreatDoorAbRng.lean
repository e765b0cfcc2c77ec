/-
  A WORLD IN WHICH EVERY BLOCK OF CELLS IS AS IT WAS: what was true of the state is true of it.
-/
import Derived.Test.YtnklmlnkiepdiaaGreatDoorAbCode
import Derived.RangeFuncLeaves
import Derived.RangeFuncRecord
import Derived.RangeFuncIn
set_option linter.unusedVariables false
set_option linter.unusedSectionVars false
set_option linter.unusedSimpArgs false
namespace Go.Ab
variable [Tabs]
open Go.RowKit (Below)

/-- neither cells nor a map -/
def Other (o : Obj) : Prop := (∀ (row : Array Value) (E : TypeId) (fz : Nat × Nat), o ≠ .cells row E fz) ∧ ∀ (es : Array MapEntry) (clk : Nat), o ≠ .map es clk

structure Swap (w w' : World) : Prop where
  maps : ∀ (B : Nat) (es : Array MapEntry) (clk : Nat), w.heap[B]? = some (.map es clk) → w'.heap[B]? = some (.map es clk)
  cells : ∀ (B : Nat) (row : Array Value) (E : TypeId) (fz : Nat × Nat), w.heap[B]? = some (.cells row E fz) → w'.heap[B]? = some (.cells row E fz)
  size : w.heap.size ≤ w'.heap.size

theorem Swap.refl (w : World) : Swap w w := ⟨fun _ _ _ h => h, fun _ _ _ _ h => h, Nat.le_refl _⟩
theorem Swap.trans {a b c : World} (h : Swap a b) (g : Swap b c) : Swap a c := ⟨fun B es clk e => g.maps B es clk (h.maps B es clk e), fun B row E fz e => g.cells B row E fz (h.cells B row E fz e), Nat.le_trans h.size g.size⟩
theorem Swap.put {w : World} {l : Nat} {o : Obj} (o' : Obj) (h : w.heap[l]? = some o) (ho : Other o) : Swap w (w.putObj l o') := by
  refine ⟨fun B es clk e => ?_, fun B row E fz e => ?_, by simp⟩
  · by_cases hB : B = l
    · subst hB; rw [h] at e; exact absurd (Option.some.inj e) (ho.2 es clk)
    · rw [World.putObj_heap_other hB]; exact e
  · by_cases hB : B = l
    · subst hB; rw [h] at e; exact absurd (Option.some.inj e) (ho.1 row E fz)
    · rw [World.putObj_heap_other hB]; exact e
theorem Swap.below {w w' : World} (h : Below w.heap.size w w') : Swap w w' := ⟨fun B es clk e => (h.block B (heap_lt e)).trans e, fun B row E fz e => (h.block B (heap_lt e)).trans e, h.size⟩

def Kx.on (k : Kx) (w' : World) : Kx := { k with w := w' }

theorem VRel.swap {w w' : World} (h : Swap w w') {O : Nat → Prop} : ∀ (t : Ty) (x : t.den) (cs : List Value), VRel w O t x cs → VRel w' O t x cs := by
  intro t
  induction t with
  | int k => intro x cs hv; exact hv
  | bool => intro x cs hv; exact hv
  | str => intro x cs hv; exact hv
  | unit => intro x cs hv; exact hv
  | pair a b iha ihb =>
    intro x cs hv
    obtain ⟨c1, c2, e, h1, h2⟩ := hv
    exact ⟨c1, c2, e, iha _ _ h1, ihb _ _ h2⟩
  | slice e ih =>
    intro x cs hv
    obtain ⟨a, cap, e1, h1, h2, h3⟩ := hv
    refine ⟨a, cap, e1, h1, h2, fun hx => ?_⟩
    obtain ⟨B, o, row, E, fz, e2, hO, hb, hs, hv⟩ := h3 hx
    exact ⟨B, o, row, E, fz, e2, hO, h.cells _ _ _ _ hb, hs, fun i hi => ih _ _ (hv i hi)⟩
  | map k v ihk ihv =>
    intro x cs hv
    rcases hv with hv | ⟨B, es, clk, e1, hO, hb, hl, hv⟩
    · exact Or.inl hv
    · exact Or.inr ⟨B, es, clk, e1, hO, h.maps _ _ _ hb, hl, fun i h1 h2 => ⟨ihk _ _ (hv i h1 h2).1, (hv i h1 h2).2.1, ihv _ _ (hv i h1 h2).2.2⟩⟩

section
variable {k : Kx} {w' : World} (h : Swap k.w w')
include h
theorem CRel.swap : ∀ {c : Cell} {v : Value}, CRel k c v → CRel (k.on w') c v := by
  intro c v hc
  cases c with
  | val t x => exact VRel.swap h t x _ hc
  | pptr t x off =>
    obtain ⟨B, o, row, E, fz, e1, hO, hb, hs, hv⟩ := hc
    exact ⟨B, o, row, E, fz, e1, hO, h.cells _ _ _ _ hb, hs, VRel.swap h _ _ _ hv⟩
  | clip e xs =>
    obtain ⟨a, e1, hv⟩ := hc
    exact ⟨a, e1, VRel.swap h _ _ _ hv⟩
  | nq b e xs => exact ⟨VRel.swap h _ _ _ hc.1, hc.2⟩
  | _ => exact hc
theorem CRels.swap : ∀ {cs : List Cell} {vs : List Value}, CRels k cs vs → CRels (k.on w') cs vs := by
  intro cs
  induction cs with
  | nil => intro vs hc; exact hc
  | cons c cs ih =>
    intro vs hc
    obtain ⟨v, r, e, h1, h2⟩ := hc
    exact ⟨v, r, e, CRel.swap h h1, ih h2⟩
theorem PRel.swap {agg : Bool} {cs : List Cell} {v : Value} (hc : PRel k agg cs v) : PRel (k.on w') agg cs v := by
  unfold PRel at *
  cases agg with
  | true => obtain ⟨vs, e, hv⟩ := hc; exact ⟨vs, e, CRels.swap h hv⟩
  | false => obtain ⟨c, e, hv⟩ := hc; exact ⟨c, e, hv.imp id fun g => ⟨CRel.swap h g.1, g.2⟩⟩
theorem PRels.swap : ∀ {ps : List (Bool × List Cell)} {vs : List Value}, PRels k ps vs → PRels (k.on w') ps vs := by
  intro ps
  induction ps with
  | nil => intro vs hc; exact hc
  | cons c cs ih =>
    intro vs hc
    obtain ⟨v, r, e, h1, h2⟩ := hc
    exact ⟨v, r, e, PRel.swap h h1, ih h2⟩
theorem ARel.swap {a : AVal} {v : Value} (ha : ARel k a v) : ARel (k.on w') a v := by
  cases a with
  | one c => exact ha.imp id (CRel.swap h)
  | pure t x => obtain ⟨ht, vs, e, hv⟩ := ha; exact ⟨ht, vs, e, VRel.swap h _ _ _ hv⟩
  | agg cs => obtain ⟨vs, e, hv⟩ := ha; exact ⟨vs, e, CRels.swap h hv⟩
  | tup ps => obtain ⟨vs, e, hv⟩ := ha; exact ⟨vs, e, PRels.swap h hv⟩
theorem ARels.swap : ∀ {as : List AVal} {vs : List Value}, ARels k as vs → ARels (k.on w') as vs := by
  intro as
  induction as with
  | nil => intro vs hc; exact hc
  | cons c cs ih =>
    intro vs hc
    obtain ⟨v, r, e, h1, h2⟩ := hc
    exact ⟨v, r, e, ARel.swap h h1, ih h2⟩
theorem FRel.swap {fr : Fr} {tmps : Array Value} (hf : FRel k fr tmps) : FRel (k.on w') fr tmps := ⟨hf.1, fun i => ARel.swap h (hf.2 i)⟩
theorem BRel.swap {n : Nat} {b : Blk} (hb : BRel k n b) : BRel (k.on w') n b := by
  cases b with
  | arr e xs =>
    unfold BRel at *
    show match k.μ n with | .none => xs = [] | .at_ B o cap => _
    revert hb
    cases k.μ n with
    | none => intro hb; exact hb
    | at_ B o cap =>
      intro hb
      obtain ⟨row, E, fz, h1, h2, h3, h4, h5, h6⟩ := hb
      exact ⟨row, E, fz, h.cells _ _ _ _ h1, h2, h3, h4, h5, fun i hi => VRel.swap h _ _ _ (h6 i hi)⟩
  | var cs =>
    obtain ⟨B, row, E, fz, h1, h2, h3, h4, h5⟩ := hb
    exact ⟨B, row, E, fz, h1, h.cells _ _ _ _ h2, h3, CRels.swap h h4, h5⟩
  | map kt vt xs =>
    obtain ⟨B, es, clk, h1, h2, h3⟩ := hb
    exact ⟨B, es, clk, h1, h.maps _ _ _ h2, h3.mono fun _ _ _ g => VRel.swap h _ _ _ g⟩
theorem HRel.swap {N : Nat} (hk : HRel N k) : HRel N (k.on w') :=
  ⟨fun n b hb => BRel.swap h (hk.blk n b hb), hk.inj, fun B hB => ⟨(hk.low B hB).1, Nat.lt_of_lt_of_le (hk.low B hB).2 h.size⟩, ⟨fun B hB => by
    rcases hk.xlow.1 B hB with ⟨row, E, fz, h1⟩ | ⟨es, clk, h1⟩
    · exact Or.inl ⟨row, E, fz, h.cells _ _ _ _ h1⟩
    · exact Or.inr ⟨es, clk, h.maps _ _ _ h1⟩, Tabs.mono (fun B row E fz _ h1 => h.cells _ _ _ _ h1) hk.xlow.2.1, hk.xlow.2.2.1, Nat.le_trans hk.xlow.2.2.2 h.size⟩, hk.xown, hk.names⟩
end

/-! ### a function's end -/
/-- the blocks that a range over a function has left are taken -/
structure Took (Bs : List Nat) (w w' : World) : Prop where
  os : w'.os = w.os
  tape : w'.tape = w.tape
  output : w'.output = w.output
  size : w'.heap.size = w.heap.size
  other : ∀ i : Nat, i ∉ Bs → w'.heap[i]? = w.heap[i]?
  swap : Swap w w'

theorem leaves_marks {P : Program} {fn : Func} {tmps : Array Value} {R : Ending → World → Prop} : ∀ (Bs : List Nat) (w : World), Bs.Nodup → (∀ B ∈ Bs, w.heap[B]? = some (.deferred (some []))) →
    (∀ w', Took Bs w w' → ∃ v, (results fn tmps).run P w' = .ok v w' ∧ R (.returned v) w') → LeavesInM Fence.wide 0 P fn tmps R (Bs.map Mark) .returning w := by
  intro Bs
  induction Bs with
  | nil =>
    intro w _ _ h
    exact h w ⟨rfl, rfl, rfl, rfl, fun _ _ => rfl, Swap.refl w⟩
  | cons B Bs ih =>
    intro w hnd hB h
    have hb := hB B (by simp)
    have hsw : Swap w (w.putObj B (.deferred none)) := Swap.put _ hb ⟨fun _ _ _ e => (by cases e), fun _ _ e => (by cases e)⟩
    refine ⟨by simp, .inl ⟨B, w.putObj B (.deferred none), rfl, run_takeDeferred hb, ?_⟩⟩
    obtain ⟨h1, h2⟩ := List.nodup_cons.1 hnd
    refine ih _ h2 (fun C hC => ?_) fun w' hT => ?_
    · rw [World.putObj_heap_other (fun e => h1 (by rw [← e]; exact hC))]
      exact hB C (by simp [hC])
    · refine h w' ⟨hT.os, hT.tape, hT.output, by rw [hT.size, World.putObj_size], fun i hi => ?_, hsw.trans hT.swap⟩
      rw [hT.other i (fun e => hi (by simp [e])), World.putObj_heap_other (fun e => hi (by simp [e]))]

/-- What is true of a state, its marks taken. -/
theorem Rel.took {N : Nat} {k0 k : Kx} {σ : St} {a : Act} (h : Rel N k0 σ k a) {Bs : List Nat} (hds : a.defers = Bs.map Mark) (hBs : ∀ B ∈ Bs, N ≤ B ∧ k0.w.heap.size ≤ B ∧ ¬ k.O B ∧ k.w.heap[B]? = some (.deferred (some []))) {w' : World} (hT : Took Bs k.w w') :
    Rel N k0 σ (k.on w') { a with defers := [] } := by
  refine ⟨⟨h.hp, h.nx, HRel.swap hT.swap h.h, FRel.swap hT.swap h.f, ⟨fun B hB hlt => ?_, fun B hB hlt => h.ext.own B hB hlt, Nat.le_trans h.ext.size hT.swap.size, h.ext.u, h.ext.arr, h.ext.var, h.ext.map, h.ext.x⟩, ?_, ?_, Marks.nil _ _ _⟩, h.u⟩
  · show w'.heap[B]? = _
    rw [hT.other B (fun e => by have := (hBs B e).2.1; omega)]
    exact h.ext.same B hB hlt
  · exact Nat.le_trans h.room hT.swap.size
  · refine h.below.trans ⟨hT.os, hT.tape, hT.output, hT.swap.size, fun B hB => hT.other B fun e => ?_⟩
    have := (hBs B e).1
    omega

/-- A call, from its body: the marks that are left among the deferred calls are taken. -/
theorem calls_of_wp_marks {P : Program} {f : FuncId} {fn : Func} {c : Code} {args : Array Value} {w : World} {R : Ending → World → Prop} (hf : P.funcs[f]? = some fn) (hb : fn.body = some c)
    (h : c.wpIn Fence.wide 0 P (bodyPostM Fence.wide 0 P fn R) { tmps := args ++ Array.replicate (fn.ntmps - args.size) undef, defers := [] } w) : Calls P f args w R :=
  callsIn_wide.1 (callsIn_of_wp_marks hf hb trivial h rfl)

end Go.Ab

/-
  A RANGE OVER A FUNCTION whose iterator has a contract: a round for each of the values that come.
-/
set_option linter.unusedVariables false
set_option linter.unusedSimpArgs false
namespace Go.Ab
variable [Tabs]
open Go.RowKit (Below)

def exOf : Ex → Exit
  | .normal => .normal
  | .exit n => .exit n
  | .ret => .ret

/-- the slots that a code does not write are as they were -/
structure Same (c : Code) (a a' : Act) : Prop where
  slots : ∀ keep, writes keep c = false → ∀ i ∈ keep, a'.tmps.getD i undef = a.tmps.getD i undef
  size : a'.tmps.size = a.tmps.size

/-- What is true behind a code. -/
def Post (N : Nat) (k0 : Kx) (c : Code) (e : Ex) (σ' : St) (k : Kx) (a : Act) (e' : Exit) (a' : Act) (w' : World) : Prop :=
  e' = exOf e ∧ ∃ k', k'.w = w' ∧ Rel N k0 σ' k' a' ∧ WExt k k' ∧ Same c a a'

theorem Same.refl (c : Code) (a : Act) : Same c a a := ⟨fun _ _ _ _ => rfl, rfl⟩

/-- The same world but for blocks that are the caller's own, some of the blocks. -/
structure Sub (k k' : Kx) : Prop where
  w : ∀ B, ¬ k.X B → k'.w.heap[B]? = k.w.heap[B]?
  μ : k'.μ = k.μ
  U : k'.U = k.U
  O : ∀ B, k'.O B → k.O B
  hp : ∀ n b, hget k'.hp n = some b → hget k.hp n = some b

section
variable {k k' : Kx} (h : Sub k k')
include h
theorem Sub.v {t : Ty} {x : t.den} {cs : List Value} (hv : VRel k.w k.O t x cs) : VRel k'.w k'.O t x cs := VRel.mono (fun B hB _ => h.w B fun hx => hB (Or.inl hx)) (fun B hB _ => h.O B hB) t x cs hv
theorem Sub.ptr {n off : Nat} {v : Value} (hp : PtrTo k n off v) : PtrTo k' n off v := by
  refine ⟨⟨by rw [h.U]; exact hp.1.1, hp.1.2⟩, fun cs hc => ?_⟩
  rw [h.μ]; exact hp.2 cs (h.hp n _ hc)
theorem Sub.c : ∀ {c : Cell} {v : Value}, CRel k c v → CRel k' c v := by
  intro c v hc
  cases c with
  | undef => exact hc
  | val t x => exact h.v hc
  | nilS => exact hc
  | own n e => exact ⟨⟨by rw [h.U]; exact hc.1.1, hc.1.2⟩, fun xs hx => by rw [h.μ]; exact hc.2 xs (h.hp n _ hx)⟩
  | sub n e lo hi => exact ⟨⟨by rw [h.U]; exact hc.1.1, hc.1.2⟩, fun xs hx => by rw [h.μ]; exact hc.2 xs (h.hp n _ hx)⟩
  | clp n e lo hi => exact ⟨⟨by rw [h.U]; exact hc.1.1, hc.1.2⟩, fun xs hx => by rw [h.μ]; exact hc.2 xs (h.hp n _ hx)⟩
  | ptr n off => exact h.ptr hc
  | pptr t x off =>
    obtain ⟨B, o, row, E, fz, e1, hO, hb, hs, hv⟩ := hc
    exact ⟨B, o, row, E, fz, e1, fun h' => hO (h.O B h'), (h.w B fun hx => hO (Or.inl hx)).trans hb, hs, h.v hv⟩
  | eptr n e i off => exact ⟨⟨by rw [h.U]; exact hc.1.1, hc.1.2⟩, fun xs hx hi => by rw [h.μ]; exact hc.2 xs (h.hp n _ hx) hi⟩
  | fn f caps =>
    obtain ⟨vs, e1, hl, hp⟩ := hc
    exact ⟨vs, e1, hl, fun j h1 h2 => h.ptr (hp j h1 h2)⟩
  | clip e xs =>
    obtain ⟨a, e1, hv⟩ := hc
    exact ⟨a, e1, h.v hv⟩
  | mp n kt vt => exact ⟨⟨by rw [h.U]; exact hc.1.1, hc.1.2⟩, fun xs hx => by rw [h.μ]; exact hc.2 xs (h.hp n _ hx)⟩
  | nq b e xs => exact ⟨h.v hc.1, hc.2⟩
  | ifc b => exact hc
  | self n t => exact ⟨⟨by rw [h.U]; exact hc.1.1, hc.1.2⟩, fun cs hx => by rw [h.μ]; exact hc.2 cs (h.hp n _ hx)⟩
theorem Sub.cs : ∀ {cs : List Cell} {vs : List Value}, CRels k cs vs → CRels k' cs vs := by
  intro cs
  induction cs with
  | nil => intro vs hc; exact hc
  | cons c cs ih =>
    intro vs hc
    obtain ⟨v, r, e, h1, h2⟩ := hc
    exact ⟨v, r, e, h.c h1, ih h2⟩
theorem Sub.b {n : Nat} {b : Blk} (hxo : ∀ B, (k.μ n).block = some B → ¬ k.X B) (hb : BRel k n b) : BRel k' n b := by
  cases b with
  | arr e xs =>
    unfold BRel at hb ⊢
    rw [h.μ]
    cases hm : k.μ n with
    | none => rw [hm] at hb; exact hb
    | at_ B o cap =>
      rw [hm] at hb
      obtain ⟨row, E, fz, h1, h2, h3, h4, h5, h6⟩ := hb
      exact ⟨row, E, fz, (h.w B (hxo B (by rw [hm]; rfl))).trans h1, h2, h3, h4, h5, fun i hi => h.v (h6 i hi)⟩
  | var cs =>
    obtain ⟨B, row, E, fz, h0, h1, h2, h3, h4⟩ := hb
    exact ⟨B, row, E, fz, by rw [h.μ]; exact h0, (h.w B (hxo B (by rw [h0]; rfl))).trans h1, h2, h.cs h3, h4⟩
  | map kt vt xs =>
    obtain ⟨B, es, clk, h0, h1, h2⟩ := hb
    exact ⟨B, es, clk, by rw [h.μ]; exact h0, (h.w B (hxo B (by rw [h0]; rfl))).trans h1, h2.mono fun _ _ _ g => h.v g⟩
theorem Sub.a {a : AVal} {v : Value} (ha : ARel k a v) : ARel k' a v := by
  cases a with
  | one c => exact ha.imp id h.c
  | pure t x => obtain ⟨ht, vs, e, hv⟩ := ha; exact ⟨ht, vs, e, h.v hv⟩
  | agg cs => obtain ⟨vs, e, hv⟩ := ha; exact ⟨vs, e, h.cs hv⟩
  | tup ps => obtain ⟨vs, e, hv⟩ := ha; exact ⟨vs, e, PRels.map (fun _ _ _ _ _ hc => h.c hc) hv⟩
theorem Sub.f {fr : Fr} {tmps : Array Value} (hf : FRel k fr tmps) : FRel k' fr tmps := ⟨hf.1, fun i => h.a (hf.2 i)⟩
theorem Sub.own {B : Nat} (ho : k'.Own B) : k.Own B := by
  obtain ⟨n, b, h1, h2⟩ := ho
  exact ⟨n, b, h.hp n b h1, by rw [← h.μ]; exact h2⟩
theorem Sub.hrel {N : Nat} (hk : HRel N k) (hz : k.w.heap.size ≤ k'.w.heap.size) (hx : XOK N k'.X k'.w) (hxo : ∀ B, k'.X B → ¬ k'.Own B) : HRel N k' :=
  ⟨fun n b hb => h.b (fun B hB hx => hk.xown B hx ⟨n, b, h.hp n b hb, hB⟩) (hk.blk n b (h.hp n b hb)), fun n m b c B h1 h2 h3 h4 => hk.inj n m b c B (h.hp n b h1) (h.hp m c h2) (by rw [← h.μ]; exact h3) (by rw [← h.μ]; exact h4),
   fun B hB => ⟨(hk.low B (h.own hB)).1, Nat.lt_of_lt_of_le (hk.low B (h.own hB)).2 hz⟩, hx, hxo, fun n b hb => by rw [h.U]; exact hk.names n b (h.hp n b hb)⟩
end

/-! ### the iterator's contract -/
/-- 'f' called with yield hands on the values one after the other, so long as yield says yes; S: the blocks that it reads. -/
def Iter (P : Program) (f : FuncId) (cvs : Array Value) (vals : List (Array Value)) (S : Nat → Prop) (w : World) : Prop :=
  ∀ (l : Nat) (J : Nat → World → Prop) (Jx : World → Prop) (W : World),
    (∀ i W', J i W' → ∀ B, S B → W'.heap[B]? = w.heap[B]?) → (∀ i W1 W2, J i W1 → Below W1.heap.size W1 W2 → J i W2) → (∀ W1 W2, Jx W1 → Below W1.heap.size W1 W2 → Jx W2) →
    (∀ i (h : i < vals.length) W1, J i W1 → YieldAt Fence.wide 0 P l vals[i] W1 fun e W' => (e = .returned (.bool true) ∧ J (i + 1) W') ∨ (e = .returned (.bool false) ∧ Jx W')) →
    J 0 W → CallsIn Fence.wide 0 P f (#[.func (.yield l) #[] #[]] ++ cvs) W fun e W' => (∃ v, e = .returned v) ∧ (J vals.length W' ∨ Jx W')

/-- What is asked of the table's word on an iterator. -/
def GetOK (P : Program) (te : Ty) (parts : List (Bool × Nat)) (get : (Nat → Option Blk) → Nat → List (Nat × Nat) → Option (List te.den)) : Prop :=
  ∀ (N : Nat) (k : Kx) (f : FuncId) (caps : List (Nat × Nat)) (cvs : Array Value) (xs : List te.den), HRel N k → CRel k (.fn f caps) (.func (.func f) #[] cvs) → get (hget k.hp) f caps = some xs →
    ∃ (vals : List (Array Value)) (S : Nat → Prop), vals.length = xs.length ∧ (∀ i (h : i < xs.length) (h' : i < vals.length), PRels k (deal parts (flat te xs[i])) vals[i].toList) ∧
      (∀ B, S B → B < k.w.heap.size ∧ (¬ k.O B ∨ ∃ n, n ∈ caps.map (·.1) ∧ (k.μ n).block = some B ∧ ∃ b, hget k.hp n = some b)) ∧ Enters P f ∧ Iter P f cvs vals S k.w

/-! ### small steps -/
/-- names that are the call's own no more -/
def dropK (k : Kx) (ns : List Nat) : Kx := { k with hp := dropAll k.hp ns }

theorem hget_dropAll : ∀ (ns : List Nat) (hp : Hp) (m : Nat), hget (dropAll hp ns) m = if m ∈ ns then none else hget hp m := by
  intro ns
  induction ns with
  | nil => intro hp m; simp [dropAll]
  | cons n r ih =>
    intro hp m
    simp only [dropAll]
    rw [ih, hget_hrem]
    by_cases h1 : m ∈ r
    · simp [h1]
    · by_cases h2 : n = m
      · subst h2; simp
      · have : m ≠ n := fun e => h2 e.symm
        simp [h1, h2, this]

theorem dropK_Own {k : Kx} {ns : List Nat} {B : Nat} (h : (dropK k ns).Own B) : ∃ n b, n ∉ ns ∧ hget k.hp n = some b ∧ (k.μ n).block = some B := by
  obtain ⟨n, b, h1, h2⟩ := h
  have h1 : hget (dropAll k.hp ns) n = some b := h1
  rw [hget_dropAll] at h1
  split at h1
  · cases h1
  · rename_i hn; exact ⟨n, b, hn, h1, h2⟩
theorem dropK_O {k : Kx} {ns : List Nat} {B : Nat} (h : (dropK k ns).O B) : k.O B := h.imp id fun h => by obtain ⟨n, b, _, h1, h2⟩ := dropK_Own h; exact ⟨n, b, h1, h2⟩
theorem dropK_ext (k : Kx) (ns : List Nat) : Ext k (dropK k ns) where
  same := fun B _ _ => rfl
  own := fun B h _ => by obtain ⟨n, b, _, h1, h2⟩ := dropK_Own h; exact ⟨n, b, h1, h2⟩
  size := Nat.le_refl _
  u := fun _ h => h
  arr := fun n e xs _ h => by
    have h : hget (dropAll k.hp ns) n = some (.arr e xs) := h
    rw [hget_dropAll] at h
    split at h
    · cases h
    · exact ⟨xs, h, rfl, rfl⟩
  var := fun n cs _ h => by
    have h : hget (dropAll k.hp ns) n = some (.var cs) := h
    rw [hget_dropAll] at h
    split at h
    · cases h
    · exact ⟨cs, h, rfl⟩
  map := fun n kt vt xs _ h => by
    have h : hget (dropAll k.hp ns) n = some (.map kt vt xs) := h
    rw [hget_dropAll] at h
    split at h
    · cases h
    · exact ⟨xs, h, rfl⟩
  x := rfl
theorem dropK_hrel {N : Nat} {k : Kx} (hk : HRel N k) (ns : List Nat) : HRel N (dropK k ns) := by
  have hg : ∀ {n b}, hget (dropK k ns).hp n = some b → hget k.hp n = some b := fun {n b} h => by
    have h : hget (dropAll k.hp ns) n = some b := h
    rw [hget_dropAll] at h
    split at h
    · cases h
    · exact h
  exact ⟨fun n b h => BRel.move (dropK_ext k ns) rfl (fun _ _ => rfl) (hk.blk n b (hg h)), fun n m b c B h1 h2 h3 h4 => hk.inj n m b c B (hg h1) (hg h2) h3 h4,
    fun B hB => by obtain ⟨n, b, _, h1, h2⟩ := dropK_Own hB; exact hk.low B ⟨n, b, h1, h2⟩, hk.xlow, fun B hX hB => by obtain ⟨n, b, _, h1, h2⟩ := dropK_Own hB; exact hk.xown B hX ⟨n, b, h1, h2⟩, fun n b h => hk.names n b (hg h)⟩
theorem Rel.dropK {N : Nat} {k0 k : Kx} {σ : St} {a : Act} (h : Rel N k0 σ k a) (ns : List Nat) : Rel N k0 { σ with hp := dropAll σ.hp ns } (Go.Ab.dropK k ns) a :=
  ⟨⟨by show dropAll k.hp ns = _; rw [h.hp], h.nx, dropK_hrel h.h ns, (dropK_ext k ns).f h.f, h.ext.trans (dropK_ext k ns), h.room, h.below, h.defers.next (dropK_ext k ns).wext⟩, h.u⟩

theorem on_ext {k : Kx} {w' : World} (h : Below k.w.heap.size k.w w') : Ext k (k.on w') :=
  ⟨fun B _ hlt => h.block B hlt, fun _ h _ => h, h.size, fun _ h => h, fun n e xs _ h => ⟨xs, h, rfl, rfl⟩, fun n cs _ h => ⟨cs, h, rfl⟩, fun n kt vt xs _ h => ⟨xs, h, rfl⟩, rfl⟩

/-- Blocks of the iterator's own are written, nothing else. -/
structure Wrote (V : Nat → Prop) (w w' : World) : Prop where
  os : w'.os = w.os
  tape : w'.tape = w.tape
  output : w'.output = w.output
  size : w'.heap.size = w.heap.size
  other : ∀ B, ¬ V B → w'.heap[B]? = w.heap[B]?
  solid : ∀ B, V B → Solid w' B

/-- .. that may write blocks of its own, V. -/
def IterW (P : Program) (f : FuncId) (cvs : Array Value) (vals : List (Array Value)) (S V : Nat → Prop) (w : World) : Prop :=
  ∀ (l : Nat) (J : Nat → World → Prop) (Jx : World → Prop) (W : World),
    (∀ i W', J i W' → ∀ B, S B → W'.heap[B]? = w.heap[B]?) → (∀ i W1 W2, J i W1 → Below W1.heap.size W1 W2 → J i W2) → (∀ W1 W2, Jx W1 → Below W1.heap.size W1 W2 → Jx W2) →
    (∀ i W1 W2, J i W1 → Wrote V W1 W2 → J i W2) →
    (∀ i (h : i < vals.length) W1, J i W1 → YieldAt Fence.wide 0 P l vals[i] W1 fun e W' => (∀ B, V B → W'.heap[B]? = W1.heap[B]?) ∧ ((e = .returned (.bool true) ∧ J (i + 1) W') ∨ (e = .returned (.bool false) ∧ Jx W'))) →
    J 0 W → (∀ B, V B → W.heap[B]? = w.heap[B]?) → CallsIn Fence.wide 0 P f (#[.func (.yield l) #[] #[]] ++ cvs) W fun e W' => (∃ v, e = .returned v) ∧ (J vals.length W' ∨ Jx W')

def GetOKW (P : Program) (te : Ty) (parts : List (Bool × Nat)) (get : (Nat → Option Blk) → Nat → List (Nat × Nat) → Option (List te.den)) : Prop :=
  ∀ (N : Nat) (k : Kx) (f : FuncId) (caps : List (Nat × Nat)) (cvs : Array Value) (xs : List te.den), HRel N k → CRel k (.fn f caps) (.func (.func f) #[] cvs) → get (hget k.hp) f caps = some xs →
    ∃ (vals : List (Array Value)) (S V : Nat → Prop), vals.length = xs.length ∧ (∀ i (h : i < xs.length) (h' : i < vals.length), PRels k (deal parts (flat te xs[i])) vals[i].toList) ∧
      (∀ B, S B → B < k.w.heap.size ∧ ¬ k.O B) ∧ (∀ B, V B → ∃ n, n ∈ caps.map (·.1) ∧ (k.μ n).block = some B ∧ ∃ b, hget k.hp n = some b) ∧ Enters P f ∧ IterW P f cvs vals S V k.w

theorem GetOK.w {P : Program} {te : Ty} {parts : List (Bool × Nat)} {get : (Nat → Option Blk) → Nat → List (Nat × Nat) → Option (List te.den)} (h : GetOK P te parts get) : GetOKW P te parts get := by
  intro N k f caps cvs xs hk hc hg
  obtain ⟨vals, S, h1, h2, h3, h4, h5⟩ := h N k f caps cvs xs hk hc hg
  refine ⟨vals, fun B => S B ∧ ¬ k.O B, fun B => S B ∧ ∃ n, n ∈ caps.map (·.1) ∧ (k.μ n).block = some B ∧ ∃ b, hget k.hp n = some b, h1, h2, fun B hB => ⟨(h3 B hB.1).1, hB.2⟩, fun B hB => hB.2, h4, ?_⟩
  intro l J Jx W hS hJ hJx _ hY h0 hV
  refine (h5 l (fun i W' => J i W' ∧ ∀ B, (S B ∧ ∃ n, n ∈ caps.map (·.1) ∧ (k.μ n).block = some B ∧ ∃ b, hget k.hp n = some b) → W'.heap[B]? = k.w.heap[B]?) Jx W ?_ ?_ hJx ?_ ⟨h0, hV⟩).mono ?_
  · rintro i W' ⟨hj, hv⟩ B hB
    rcases (h3 B hB).2 with ho | ho
    · exact hS i W' hj B ⟨hB, ho⟩
    · exact hv B ⟨hB, ho⟩
  · rintro i W1 W2 ⟨hj, hv⟩ hb
    refine ⟨hJ i W1 W2 hj hb, fun B hB => ?_⟩
    have h9 := hv B hB
    have hlt : B < W1.heap.size := by
      have := (h3 B hB.1).1
      rw [Array.getElem?_eq_getElem this] at h9
      exact (Array.getElem?_eq_some_iff.1 h9).1
    exact (hb.block B hlt).trans h9
  · rintro i hi W1 ⟨hj, hv⟩
    obtain ⟨fn, tmps, assign, body, hy, hR⟩ := hY i hi W1 hj
    refine ⟨fn, tmps, assign, body, hy, hR.mono ?_⟩
    rintro e W' ⟨g1, g2⟩
    exact g2.imp (fun g => ⟨g.1, g.2, fun B hB => (g1 B hB).trans (hv B hB)⟩) id
  · rintro e W' ⟨g1, g2⟩
    exact ⟨g1, g2.imp And.left id⟩

/-- A state in a world where the blocks of cells are as they were, and what lay when the call began. -/
theorem Rel.on {N : Nat} {k0 k : Kx} {σ : St} {a : Act} (h : Rel N k0 σ k a) {w' : World} (hs : Swap k.w w') (hd : ∀ B : Nat, k.w.heap[B]? = some (.deferred (some [])) → w'.heap[B]? = some (.deferred (some []))) (hk0 : ∀ B : Nat, B < k0.w.heap.size → w'.heap[B]? = k.w.heap[B]?) (hN : ∀ B : Nat, B < N → w'.heap[B]? = k.w.heap[B]?)
    (ho : w'.os = k.w.os) (ht : w'.tape = k.w.tape) (hp : w'.output = k.w.output) : Rel N k0 σ (k.on w') a := by
  obtain ⟨Bs, h1, h2, h3⟩ := h.defers
  exact ⟨⟨h.hp, h.nx, HRel.swap hs h.h, FRel.swap hs h.f, ⟨fun B hB hlt => (hk0 B hlt).trans (h.ext.same B hB hlt), fun B hB hlt => h.ext.own B hB hlt, Nat.le_trans h.ext.size hs.size, h.ext.u, h.ext.arr, h.ext.var, h.ext.map, h.ext.x⟩,
   Nat.le_trans h.room hs.size, h.below.trans ⟨ho, ht, hp, hs.size, hN⟩, Bs, h1, h2, fun B hB => ⟨(h3 B hB).1, (h3 B hB).2.1, (h3 B hB).2.2.1, hd B (h3 B hB).2.2.2⟩⟩, h.u⟩

theorem HRel.notOwn {N : Nat} {k : Kx} (h : HRel N k) {B : Nat} {o : Obj} (hb : k.w.heap[B]? = some o) (ho : Other o) (hN : N ≤ B) : ¬ k.O B := by
  intro hB
  rcases h.cells hB with ⟨row, E, fz, h1⟩ | ⟨es, clk, h1⟩
  · rw [hb] at h1
    exact ho.1 row E fz (Option.some.inj h1)
  · rw [hb] at h1
    exact ho.2 es clk (Option.some.inj h1)

/-- a frame known at some slots only, in a frame that holds the same there -/
theorem frel_slots {k : Kx} {fr : Fr} {slots : List Nat} {tmps tmps' : Array Value} (hf : FRel k fr tmps) (hu : ∀ i, i ∉ slots → rdT fr i = .one .undef) (hs : tmps'.size = tmps.size) (hsl : ∀ i ∈ slots, tmps'.getD i undef = tmps.getD i undef) : FRel k fr tmps' := by
  refine ⟨by rw [hs]; exact hf.1, fun i => ?_⟩
  by_cases hi : i ∈ slots
  · rw [hsl i hi]; exact hf.2 i
  · rw [hu i hi]; exact Or.inl rfl

theorem fillFr_other : ∀ (ts : List (Nat × TV)) (fr : Fr) (ds : List Cell) (i : Nat), i ∉ ts.map (·.1) → rdT (fillFr fr ts ds).1 i = rdT fr i := by
  intro ts
  induction ts with
  | nil => intro fr ds i _; rfl
  | cons t ts ih =>
    intro fr ds i hi
    simp only [List.map_cons, List.mem_cons, not_or] at hi
    simp only [fillFr]
    rw [ih _ _ i hi.2, rdT_set hi.1]

theorem unpack_undef {T : Tmpl} {base : Fr} {slots : List Nat} (hb : ∀ i, i ∉ slots → rdT base i = .one .undef) (hT : ∀ i ∈ T.slots, i ∈ slots) (v : T.ty.den) : ∀ i, i ∉ slots → rdT (T.unpack base v).fr i = .one .undef := by
  intro i hi
  show rdT (fillFr base T.live _).1 i = _
  rw [fillFr_other _ _ _ _ (fun h => hi (hT i h))]
  exact hb i hi

theorem base_undef {T : Tmpl} (c : T.ty.den) : ∀ i, i ∉ T.slots → rdT (T.base c) i = .one .undef := by
  intro i hi
  unfold Tmpl.base
  rw [fillFr_other _ _ _ _ hi]
  exact undefs_rd _ _

theorem valsOf_map : ∀ (ps : List (Bool × Nat)) (cs : List Cell), valsOf ps cs = (deal ps cs).map fun p => mkV p.1 p.2 := by
  intro ps
  induction ps with
  | nil => intro cs; rfl
  | cons p r ih => intro cs; obtain ⟨a, n⟩ := p; simp only [valsOf, deal, List.map_cons]; rw [ih]

theorem frel_setPs {k : Kx} : ∀ (ps : List Tmp) (as : List AVal) (vs : List Value) (fr : Fr) (tmps : Array Value), FRel k fr tmps → ARels k as vs →
    FRel k (setPs fr ps as) ((ps.zip vs).foldl (fun t p => t.setIfInBounds p.1 p.2) tmps) := by
  intro ps
  induction ps with
  | nil => intro as vs fr tmps hf _; exact hf
  | cons p ps ih =>
    intro as vs fr tmps hf ha
    cases as with
    | nil => have ha : vs = [] := ha; subst ha; exact hf
    | cons x as =>
      obtain ⟨v, r, rfl, h1, h2⟩ := ha
      exact ih as r _ _ (FRel.put (a := ⟨tmps, []⟩) hf h1 (some p)) h2

theorem prel_mkV {k : Kx} {agg : Bool} {cs : List Cell} {v : Value} (h : PRel k agg cs v) : ARel k (mkV agg cs) v := by
  unfold PRel at h
  unfold mkV
  cases agg with
  | true => exact h
  | false =>
    obtain ⟨c, e, h1⟩ := h
    subst e
    exact h1.imp id And.left

theorem prels_arels {k : Kx} : ∀ {ps : List (Bool × List Cell)} {vs : List Value}, PRels k ps vs → ARels k (ps.map fun p => mkV p.1 p.2) vs := by
  intro ps
  induction ps with
  | nil => intro vs h; exact h
  | cons p ps ih =>
    intro vs h
    obtain ⟨v, r, e, h1, h2⟩ := h
    exact ⟨v, r, e, prel_mkV h1, ih h2⟩

theorem ARels.len {k : Kx} : ∀ {as : List AVal} {vs : List Value}, ARels k as vs → as.length = vs.length := by
  intro as
  induction as with
  | nil => intro vs h; have h : vs = [] := h; rw [h]; rfl
  | cons a as ih => intro vs h; obtain ⟨v, r, e, _, h2⟩ := h; rw [e]; simp [ih h2]


/-! ### the statement -/
theorem Rel.bare {N : Nat} {k0 k : Kx} {σ : St} {a : Act} (h : Rel N k0 σ k a) : Rel N k0 σ k { tmps := a.tmps, defers := [] } :=
  ⟨⟨h.hp, h.nx, h.h, h.f, h.ext, h.room, h.below, Marks.nil _ _ _⟩, h.u⟩
theorem Rel.slots {N : Nat} {k0 k : Kx} {σ : St} {a : Act} {tmps : Array Value} {slots : List Nat} (h : Rel N k0 σ k a) (hu : ∀ i, i ∉ slots → rdT σ.fr i = .one .undef) (hs : tmps.size = a.tmps.size) (hsl : ∀ i ∈ slots, tmps.getD i undef = a.tmps.getD i undef) : Rel N k0 σ k { tmps, defers := [] } :=
  ⟨⟨h.hp, h.nx, h.h, frel_slots h.f hu hs hsl, h.ext, h.room, h.below, Marks.nil _ _ _⟩, h.u⟩
theorem WExt.on {k k' : Kx} {w' : World} (h : WExt k k') (hb : ∀ B, B < k.w.heap.size → w'.heap[B]? = k'.w.heap[B]?) (hs : k'.w.heap.size ≤ w'.heap.size) : WExt k (k'.on w') :=
  ⟨fun B hB hlt => (hb B hlt).trans (h.sameN B hB hlt), fun B hB hlt => h.ownN B hB hlt, Nat.le_trans h.size hs, h.x⟩

theorem WV.on {V : Nat → Prop} {k k' : Kx} {w' : World} (h : WV V k k') (hb : ∀ B, B < k.w.heap.size → w'.heap[B]? = k'.w.heap[B]?) (hs : k'.w.heap.size ≤ w'.heap.size) : WV V k (k'.on w') :=
  ⟨fun B hB hv hlt => (hb B hlt).trans (h.sameN B hB hv hlt), fun B hB hlt => h.ownN B hB hlt, Nat.le_trans h.size hs, h.x⟩

def pendOf : Ex → Option Code
  | .normal => none
  | .exit n => some (.exit n)
  | .ret => some .ret

theorem zip_fold {ps : Array Tmp} {args : Array Value} {t : Array Value} : (ps.zip args).foldl (fun tmps (p, v) => tmps.setIfInBounds p v) t = (ps.toList.zip args.toList).foldl (fun t p => t.setIfInBounds p.1 p.2) t := by
  rw [← Array.foldl_toList, Array.toList_zip]

theorem setPs_slots {ps : List Tmp} {slots : List Nat} (hps : ∀ p ∈ ps, p ∉ slots) : ∀ (vs : List Value) (t : Array Value), (∀ i ∈ slots, ((ps.zip vs).foldl (fun t p => t.setIfInBounds p.1 p.2) t).getD i undef = t.getD i undef) ∧ ((ps.zip vs).foldl (fun t p => t.setIfInBounds p.1 p.2) t).size = t.size := by
  induction ps with
  | nil => intro vs t; exact ⟨fun _ _ => rfl, rfl⟩
  | cons p ps ih =>
    intro vs t
    cases vs with
    | nil => exact ⟨fun _ _ => rfl, rfl⟩
    | cons v vs =>
      obtain ⟨h1, h2⟩ := ih (fun q hq => hps q (by simp [hq])) vs (t.setIfInBounds p v)
      refine ⟨fun i hi => ?_, by simp only [List.zip_cons_cons, List.foldl_cons]; rw [h2]; simp⟩
      simp only [List.zip_cons_cons, List.foldl_cons]
      rw [h1 i hi]
      have hne : p ≠ i := fun e => hps p (by simp) (by rw [e]; exact hi)
      simp [Array.getD_eq_getD_getElem?, Array.getElem?_setIfInBounds_ne hne]

theorem rng_ok {C : Ctx} (hC : CtxOK C) {N : Nat} {k0 : Kx} (hlo : ∀ n, k0.U n → n < C.lo) {a b : Code} {h : HT}
    (iha : ∀ (k0 : Kx), (∀ n, k0.U n → n < C.lo) → ∀ (l : Nat) (σ σ' : St) (e : Ex) (k : Kx) (t : Act), codeR C a h.l σ = some (e, σ') → Rel N k0 σ k t → a.wpIn (fR (some l)) 0 C.E.P (Post N k0 a e σ' k t) t k.w)
    (ihb : ∀ (k0 : Kx), (∀ n, k0.U n → n < C.lo) → ∀ (l : Nat) (σ σ' : St) (e : Ex) (k : Kx) (t : Act), codeR C b h.r σ = some (e, σ') → Rel N k0 σ k t → b.wpIn (fR (some l)) 0 C.E.P (Post N k0 b e σ' k t) t k.w)
    {g : Operand} {ps : Array Tmp} {L : RngSum} {σ σ' : St} {e : Ex} {k : Kx} {act : Act} {f : FuncId} {caps : List (Nat × Nat)} {xs : List L.te.den} {c : L.keep.ty.den} {v : L.T.ty.den} (hf : rdC σ.fr g = .fn f caps)
    (hgt : L.get (hget σ.hp) f caps = some xs) (hGet : GetOKW C.E.P L.te L.parts L.get) (hparts : L.parts.length = ps.size)
    (hc : L.keep.packK { σ with hp := dropAll σ.hp (caps.map (·.1)) } = some c) (hv : L.T.pack C.lo { σ with hp := dropAll σ.hp (caps.map (·.1)) } = some v)
    (hwa : writes L.slots a = false) (hwb : writes L.slots b = false) (hps : ∀ p ∈ ps.toList, p ∉ L.slots)
    (hrun : rngC C a b h ps.toList L (fun e σ => some (e, σ)) none (L.keep.base c) xs v = some (e, σ')) (hR : Rel N k0 σ k act) :
    (Code.rangeFunc g ps a b).wpIn (fR none) 0 C.E.P (Post N k0 (.rangeFunc g ps a b) e σ' k act) act k.w := by
  -- the iterator
  have hfv := rdC_rel hR.f (a := act) rfl g (by rw [hf]; simp)
  rw [hf] at hfv
  obtain ⟨cvs, hev, _⟩ := id hfv
  rw [hev] at hfv
  obtain ⟨vals, S, V, hvl, hvr, hS, hV, hent, hit⟩ := hGet N k f caps cvs xs hR.h hfv (by rw [hR.hp]; exact hgt)
  have hR0 := hR.dropK (caps.map (·.1))
  have hVO : ∀ B, V B → k.Own B := fun B hB => by obtain ⟨n, _, h2, b, h3⟩ := hV B hB; exact ⟨n, b, h3, h2⟩
  obtain ⟨k1, hk1⟩ : ∃ k1 : Kx, (⟨k.w, dropAll k.hp (caps.map (·.1)), k.μ, k.nx, fun B => k.X B ∨ V B, k.U⟩ : Kx) = k1 := ⟨_, rfl⟩
  obtain ⟨k0x, hk0x⟩ : ∃ k0x : Kx, (⟨k0.w, k0.hp, k0.μ, k0.nx, fun B => k0.X B ∨ V B, k0.U⟩ : Kx) = k0x := ⟨_, rfl⟩
  have hk1w : k1.w = k.w := by rw [← hk1]
  have hk0w : k0x.w = k0.w := by rw [← hk0x]
  have hVX1 : ∀ B, V B → k1.X B := fun B hB => by rw [← hk1]; exact Or.inr hB
  have hOwn1 : ∀ B, k1.Own B → k.Own B ∧ ¬ V B := by
    intro B hB
    have h9 : (Go.Ab.dropK k (caps.map (·.1))).Own B := by rw [← hk1] at hB; exact hB
    obtain ⟨n, b, hn, h1, h2⟩ := dropK_Own h9
    refine ⟨⟨n, b, h1, h2⟩, fun hv => ?_⟩
    obtain ⟨m, hm, h3, c, h4⟩ := hV B hv
    have := hR.h.inj n m b c B h1 h4 h2 h3
    subst this
    exact hn hm
  have hk1O : ∀ B, k1.O B → k.O B := by
    rintro B (hB | hB)
    · rw [← hk1] at hB
      rcases hB with hB | hB
      · exact Or.inl hB
      · exact Or.inr (hVO B hB)
    · exact Or.inr (hOwn1 B hB).1
  have hsub : Sub k k1 := by
    refine ⟨fun B _ => by rw [hk1w], by rw [← hk1], by rw [← hk1], hk1O, fun n b hb => ?_⟩
    rw [← hk1] at hb
    have hb : hget (dropAll k.hp (caps.map (·.1))) n = some b := hb
    rw [hget_dropAll] at hb
    split at hb
    · cases hb
    · exact hb
  have hH1 : HRel N k1 := by
    refine hsub.hrel hR.h (by rw [hk1w]; exact Nat.le_refl _) ⟨fun B hB => by rw [hk1w]; exact hR.h.cells (hk1O B (Or.inl hB)), by rw [hk1w]; exact hR.h.xlow.2⟩ fun B hX hO => ?_
    obtain ⟨g1, g2⟩ := hOwn1 B hO
    rw [← hk1] at hX
    rcases hX with hX | hX
    · exact hR.h.xown B hX g1
    · exact g2 hX
  have hE1 : Ext k0x k1 := by
    have E := hR.ext.trans (dropK_ext k (caps.map (·.1)))
    rw [← hk1, ← hk0x]
    refine ⟨E.same, E.own, E.size, E.u, E.arr, E.var, E.map, ?_⟩
    show (fun B => k.X B ∨ V B) = (fun B => k0.X B ∨ V B)
    rw [hR.ext.x]
  have hlox : ∀ n, k0x.U n → n < C.lo := by rw [← hk0x]; exact hlo
  have hR1 : Rel N k0x { σ with hp := dropAll σ.hp (caps.map (·.1)) } k1 act := by
    refine ⟨⟨by rw [← hk1]; exact hR0.hp, by rw [← hk1]; exact hR0.nx, hH1, hsub.f hR.f, hE1, by rw [hk1w]; exact hR.room, by rw [hk1w, hk0w]; exact hR.below, ?_⟩, by rw [← hk1]; exact hR0.u⟩
    obtain ⟨Bs, h1, h2, h3⟩ := hR.defers
    exact ⟨Bs, h1, h2, fun B hB => ⟨(h3 B hB).1, by rw [hk0w]; exact (h3 B hB).2.1, fun ho => (h3 B hB).2.2.1 (hk1O B ho), by rw [hk1w]; exact (h3 B hB).2.2.2⟩⟩
  obtain ⟨hF, hSo⟩ := packK_ok hR1 hc
  obtain ⟨base, hbase⟩ : ∃ base, L.keep.base c = base := ⟨_, rfl⟩
  rw [hbase] at hF hSo hrun
  have hbu : ∀ i, i ∉ L.slots → rdT base i = .one .undef := fun i hi => by
    rw [← hbase]
    exact base_undef c i fun h' => hi (List.mem_append.2 (.inl h'))
  have hTs : ∀ i ∈ L.T.slots, i ∈ L.slots := fun i hi => List.mem_append.2 (.inr (List.mem_append.2 (.inl hi)))
  have hsolid : ∀ (k' : Kx) (t : Act), WExtO k1 k' → t.tmps.size = act.tmps.size → (∀ i ∈ L.slots, t.tmps.getD i undef = act.tmps.getD i undef) → FRel k' base t.tmps := fun k' t hW hs hsl =>
    solid_later hSo hF hW hs fun i hi => hsl i (List.mem_append.2 (.inl hi))
  obtain ⟨k2, q1, hR2, q3⟩ := pack_sound (base := base) hR1 hlox hv fun k' hw hW => hsolid k' act hW.weak rfl fun _ _ => rfl
  -- the loop's record, the block for the rounds' deferred calls
  refine wpIn_rangeFunc fun fn hfn => ?_
  obtain ⟨rec, hrec⟩ : ∃ rec : LoopState → Option Code → Loop, rec = fun st pe => { state := st, pending := pe, fn, tmps := act.tmps, params := ps, assign := a, body := b, defers := k.w.heap.size } := ⟨_, rfl⟩
  obtain ⟨W1, hW1⟩ : ∃ W1, (k.w.alloc (.deferred (some []))).alloc (.loop (rec .ready none)) = W1 := ⟨_, rfl⟩
  obtain ⟨D, hD⟩ : ∃ D, k.w.heap.size = D := ⟨_, rfl⟩
  have hL1 : W1.heap[D + 1]? = some (.loop (rec .ready none)) := by
    rw [← hW1, ← hD]; have := World.alloc_heap_new (k.w.alloc (.deferred (some []))) (.loop (rec .ready none)); rwa [World.size_alloc] at this
  have hK1 : W1.heap[D]? = some (.deferred (some [])) := by
    rw [← hW1, ← hD]; exact (Below.heap_alloc _ _ _ (by simp)).trans (World.alloc_heap_new k.w _)
  have hb1 : Below k.w.heap.size k.w W1 := by
    rw [← hW1]; exact ((Below.refl _ k.w).alloc (Nat.le_refl _) _).alloc (by simp) _
  have hk0D' : k0.w.heap.size ≤ D := by rw [← hD]; exact hR.ext.size
  have hk0D : k0x.w.heap.size ≤ D := by rw [hk0w]; exact hk0D'
  have hND : N ≤ D := by rw [← hD]; exact hR.room
  have hk1D : k1.w.heap.size = D := by rw [hk1w, hD]
  let J : Nat → World → Prop := fun i W' => ∃ (k' : Kx) (v' : L.T.ty.den), k'.w = W' ∧ Rel N k0x (L.T.unpack base v') k' { tmps := act.tmps, defers := [] } ∧ WV V k1 k' ∧ W'.heap[D + 1]? = some (.loop (rec .ready none)) ∧ W'.heap[D]? = some (.deferred (some [])) ∧
    rngC C a b h ps.toList L (fun e σ => some (e, σ)) none base (xs.drop i) v' = some (e, σ')
  let Jx : World → Prop := fun W' => ∃ (k' : Kx) (cd : Code), k'.w = W' ∧ Rel N k0x σ' k' { tmps := act.tmps, defers := [] } ∧ WV V k1 k' ∧ pendOf e = some cd ∧ W'.heap[D + 1]? = some (.loop (rec .done (some cd))) ∧ W'.heap[D]? = some (.deferred (some []))
  -- the record turns
  have turn : ∀ {k' : Kx} {σ1 : St} {t : Act} {o : Obj} (o' : Obj), Rel N k0x σ1 k' t → k'.w.heap[D + 1]? = some o → (∀ ds, o ≠ .deferred ds) → Other o → Rel N k0x σ1 (k'.on (k'.w.putObj (D + 1) o')) t := fun o' hr ho hod hoc =>
    hr.on (Swap.put o' ho hoc) (fun B hB => by
      by_cases hBD : B = D + 1
      · subst hBD; rw [ho] at hB; exact absurd (Option.some.inj hB) (hod _)
      · rw [World.putObj_heap_other hBD]; exact hB) (fun B hB => World.putObj_heap_other (by omega)) (fun B hB => World.putObj_heap_other (by omega)) rfl rfl rfl
  have hnl : ∀ (st : LoopState) (pe : Option Code), Other (Obj.loop (rec st pe)) := fun _ _ => ⟨fun _ _ _ e => (by cases e), fun _ _ e => (by cases e)⟩
  have hnd : Other (Obj.deferred (some [])) := ⟨fun _ _ _ e => (by cases e), fun _ _ e => (by cases e)⟩
  have onW : ∀ {k' : Kx} (o' : Obj), WV V k1 k' → WV V k1 (k'.on (k'.w.putObj (D + 1) o')) := fun o' hW => hW.on (fun B hB => World.putObj_heap_other (by omega)) (by simp)
  refine ⟨D + 1, [Mark D], W1, { target := .fn (.func f) cvs, args := #[.func (.yield (D + 1)) #[] #[]] }, W1, f, #[.func (.yield (D + 1)) #[] #[]] ++ cvs, W1, ?_, ?_, ?_, ?_, fun hh => (by cases hh), ?_⟩
  · rw [← hW1, ← hD, hrec]; exact run_enterLoop_outer _ _ _ _ _
  · simp only [resolve, hev]
    simp [go_sem]
  · intro f' _; trivial
  · have hent' : ∀ args w, (callFunc f args).run C.E.P w = .ok (.enter f args) w := hent
    simp [invoke, go_sem, hent']
  · refine (hit (D + 1) J Jx W1 ?_ ?_ ?_ ?_ ?_ ?_ ?_).mono ?_
    · -- what the iterator reads is as it was
      rintro i W' ⟨k', v', rfl, hr', hW', _, _, _⟩ B hB
      obtain ⟨hlt, hO⟩ := hS B hB
      have := (hW'.weak hVX1).same B (fun h' => hO (hk1O B h')) (by rw [hk1w]; exact hlt)
      rw [this, hk1w]
    · rintro i Wa Wb ⟨k', v', rfl, hr', hW', hl, hd, hx⟩ hb
      have hx' := on_ext hb
      refine ⟨k'.on Wb, v', rfl, hr'.on (Swap.below hb) (fun B hB => (hb.block B (heap_lt hB)).trans hB) (fun B hB => hb.block B (Nat.lt_of_lt_of_le hB hr'.ext.size)) (fun B hB => hb.block B (Nat.lt_of_lt_of_le hB hr'.room)) hb.os hb.tape hb.output, hW'.trans hx'.wext, ?_, ?_, hx⟩
      · exact (hb.block _ (heap_lt hl)).trans hl
      · exact (hb.block _ (heap_lt hd)).trans hd
    · rintro Wa Wb ⟨k', cd, rfl, hr', hW', hp, hl, hd⟩ hb
      have hx' := on_ext hb
      refine ⟨k'.on Wb, cd, rfl, hr'.on (Swap.below hb) (fun B hB => (hb.block B (heap_lt hB)).trans hB) (fun B hB => hb.block B (Nat.lt_of_lt_of_le hB hr'.ext.size)) (fun B hB => hb.block B (Nat.lt_of_lt_of_le hB hr'.room)) hb.os hb.tape hb.output, hW'.trans hx'.wext, hp, ?_, ?_⟩
      · exact (hb.block _ (heap_lt hl)).trans hl
      · exact (hb.block _ (heap_lt hd)).trans hd
    · -- the iterator has written
      rintro i Wa Wb ⟨k', v', rfl, hr', hW', hl, hd, hx⟩ hw
      have hVX : ∀ B, V B → k'.X B := fun B hB => by rw [hW'.x]; exact hVX1 B hB
      have hVN : ∀ B, V B → N ≤ B := fun B hB => (hR.h.low B (hVO B hB)).1
      have nD1 : ¬ V (D + 1) := fun hv => hr'.h.notOwn hl (hnl _ _) (by omega) (Or.inl (hVX _ hv))
      have nD : ¬ V D := fun hv => hr'.h.notOwn hd hnd hND (Or.inl (hVX _ hv))
      have hsw : Sub k' (k'.on Wb) := ⟨fun B hB => hw.other B (fun hv => hB (hVX B hv)), rfl, rfl, fun _ h => h, fun _ _ h => h⟩
      have hsz : k'.w.heap.size ≤ Wb.heap.size := Nat.le_of_eq hw.size.symm
      have hxl := hr'.h.xlow
      have hHw : HRel N (k'.on Wb) := by
        refine hsw.hrel hr'.h hsz ⟨fun B hB => ?_, Tabs.mono (fun B row E fz hlt hb => (hw.other B fun hv => by have := hVN B hv; have := hxl.2.2.1; omega).trans hb) hxl.2.1, hxl.2.2.1, Nat.le_trans hxl.2.2.2 hsz⟩ hr'.h.xown
        by_cases hv : V B
        · exact hw.solid B hv
        · exact (hxl.1 B hB).same (hw.other B hv)
      have hEw : Ext k0x (k'.on Wb) := by
        refine ⟨fun B hB hlt => ?_, fun B h hlt => hr'.ext.own B h hlt, Nat.le_trans hr'.ext.size hsz, hr'.ext.u, hr'.ext.arr, hr'.ext.var, hr'.ext.map, hr'.ext.x⟩
        refine (hw.other B fun hv => hB ?_).trans (hr'.ext.same B hB hlt)
        have := hR.ext.own B (hVO B hv) (by rw [hk0w] at hlt; exact hlt)
        rw [← hk0x]; exact this
      refine ⟨k'.on Wb, v', rfl, ⟨⟨hr'.hp, hr'.nx, hHw, hsw.f hr'.f, hEw, Nat.le_trans hr'.room hsz, hr'.below.trans ⟨hw.os, hw.tape, hw.output, hsz, fun B hB => hw.other B fun hv => by have := hVN B hv; omega⟩, Marks.nil _ _ _⟩, hr'.u⟩,
        ⟨fun B hB hv hlt => (hw.other B hv).trans (hW'.sameN B hB hv hlt), fun B hB hlt => hW'.ownN B hB hlt, Nat.le_trans hW'.size hsz, hW'.x⟩, (hw.other _ nD1).trans hl, (hw.other _ nD).trans hd, hx⟩
    · -- one round
      rintro i hi Wr ⟨k', v', rfl, hr', hW', hl, hd, hx⟩
      have hi' : i < xs.length := by omega
      have hval : vals[i].size = ps.size := by
        have h1 := prels_arels (hvr i hi' hi)
        have h2 := h1.len
        rw [← valsOf_map] at h2
        have h3 : ∀ (ps : List (Bool × Nat)) (cs : List Cell), (valsOf ps cs).length = ps.length := by
          intro ps
          induction ps with
          | nil => intro cs; rfl
          | cons p r ih => intro cs; obtain ⟨x, y⟩ := p; simp [valsOf, ih]
        rw [h3] at h2
        simpa [hparts] using h2.symm
      have hy := run_yield (P := C.E.P) (args := vals[i]) hl (by rw [hrec]; exact hval)
      rw [hrec] at hy
      refine ⟨fn, _, a, b, hy, roundIn_of_wpIn trivial ?_⟩
      rw [List.drop_eq_getElem_cons hi'] at hx
      have hx : roundR C a b h ps.toList L (fun e σ => some (e, σ)) none base xs[i] (rngC C a b h ps.toList L (fun e σ => some (e, σ)) none base (xs.drop (i + 1))) v' = some (e, σ') := hx
      unfold roundR at hx
      rw [denC_nat hC.nat] at hx
      cases ha : codeR C a h.l { L.T.unpack base v' with fr := setPs (L.T.unpack base v').fr ps.toList (valsOf L.parts (flat L.te xs[i])) } with
      | none => rw [ha] at hx; cases hx
      | some pa =>
        obtain ⟨e1, σ1⟩ := pa
        rw [ha] at hx
        simp only [bindO_some] at hx
        cases e1 with
        | exit n => cases hx
        | ret => cases hx
        | normal =>
          simp only at hx
          rw [denC_nat hC.nat] at hx
          cases hb : codeR C b h.r σ1 with
          | none => rw [hb] at hx; cases hx
          | some pb =>
            obtain ⟨e2, σ2⟩ := pb
            rw [hb] at hx
            simp only [bindO_some] at hx
            -- the values that are handed on, in this state
            have hval1 : ARels k' (valsOf L.parts (flat L.te xs[i])) vals[i].toList := by
              rw [valsOf_map]
              refine prels_arels ?_
              have hp := hvr i hi' hi
              have key : ∀ (ps : List (Bool × Nat)) (cs : List Cell) (us : List Value), (∀ c ∈ cs, namesOfCell c = []) → PRels k (deal ps cs) us → PRels k' (deal ps cs) us := by
                intro ps
                induction ps with
                | nil => intro cs us _ h; exact h
                | cons p r ih =>
                  intro cs us hn h
                  obtain ⟨ag, n⟩ := p
                  obtain ⟨u, us', e1, h1, h2⟩ := h
                  refine ⟨u, us', e1, ?_, ih _ _ (fun c hc => hn c (List.mem_of_mem_drop hc)) h2⟩
                  have hWk : WExtO k1 k' := hW'.weak hVX1
                  have hcell : ∀ c ∈ cs.take n, ∀ z, CRel k c z → CRel k' c z := fun c hc z hz => cell_later hWk (hn c (List.mem_of_mem_take hc)) (hsub.c hz)
                  unfold PRel at h1 ⊢
                  cases ag with
                  | true =>
                    obtain ⟨zs, e2, hz⟩ := h1
                    refine ⟨zs, e2, cells_later hWk ?_ (hsub.cs hz)⟩
                    rw [List.flatMap_eq_nil_iff]
                    exact fun c hc => hn c (List.mem_of_mem_take hc)
                  | false =>
                    obtain ⟨c, e2, hz⟩ := h1
                    refine ⟨c, e2, hz.imp id fun hz => ⟨hcell c ?_ _ hz.1, hz.2⟩⟩
                    have e2 : cs.take n = [c] := e2
                    rw [e2]; simp
              exact key _ _ _ (fun c hc => (vals_names (flat_vals L.te xs[i]).1) c hc) hp
            have hRp : Rel N k0x { L.T.unpack base v' with fr := setPs (L.T.unpack base v').fr ps.toList (valsOf L.parts (flat L.te xs[i])) } k' { tmps := (ps.zip vals[i]).foldl (fun tmps (p, v) => tmps.setIfInBounds p v) act.tmps, defers := [] } := by
              refine ⟨⟨hr'.hp, hr'.nx, hr'.h, ?_, hr'.ext, hr'.room, hr'.below, Marks.nil _ _ _⟩, hr'.u⟩
              show FRel k' (setPs _ _ _) _
              rw [zip_fold]
              exact frel_setPs _ _ _ _ _ hr'.f hval1
            refine Go.Code.wpIn_mono ?_ (iha k0x hlox (D + 1) _ σ1 .normal k' _ ha hRp)
            intro e' t1 w1 hpost
            obtain ⟨he', k3, hw3, hR3, hW3, hS3⟩ := hpost
            subst he'; subst hw3
            have hl3 : k3.w.heap[D + 1]? = some (.loop (rec .ready none)) := (hW3.same _ (hr'.h.notOwn hl (hnl _ _) (by omega)) (heap_lt hl)).trans hl
            have hd3 : k3.w.heap[D]? = some (.deferred (some [])) := (hW3.same _ (hr'.h.notOwn hd hnd hND) (heap_lt hd)).trans hd
            refine ⟨_, run_beginRound hl3 (by rw [hrec]), ?_⟩
            have hbz : Obj.loop { rec .ready none with state := .busy } = Obj.loop (rec .busy none) := by rw [hrec]
            rw [hbz]
            have hR3' := turn (.loop (rec .busy none)) hR3 hl3 (fun ds e => by cases e) (hnl _ _)
            have hW3' := onW (.loop (rec .busy none)) (hW'.trans hW3)
            obtain ⟨kb, hkb⟩ : ∃ kb, k3.on (k3.w.putObj (D + 1) (.loop (rec .busy none))) = kb := ⟨_, rfl⟩
            rw [hkb] at hR3' hW3'
            have hkbw : k3.w.putObj (D + 1) (.loop (rec .busy none)) = kb.w := by rw [← hkb]; rfl
            rw [hkbw]
            have hlb : kb.w.heap[D + 1]? = some (.loop (rec .busy none)) := by rw [← hkbw]; exact World.putObj_heap_same (heap_lt hl3)
            have hdb : kb.w.heap[D]? = some (.deferred (some [])) := by rw [← hkbw]; exact (World.putObj_heap_other (by omega)).trans hd3
            refine Go.Code.wpIn_mono ?_ (ihb k0x hlox (D + 1) σ1 σ2 e2 kb t1 hb hR3')
            intro e' t2 w2 hpost
            obtain ⟨he', k4, hw4, hR4, hW4, hS4⟩ := hpost
            subst he'; subst hw4
            have hl4 : k4.w.heap[D + 1]? = some (.loop (rec .busy none)) := (hW4.same _ (hR3'.h.notOwn hlb (hnl _ _) (by omega)) (heap_lt hlb)).trans hlb
            have hd4 : k4.w.heap[D]? = some (.deferred (some [])) := (hW4.same _ (hR3'.h.notOwn hdb hnd hND) (heap_lt hdb)).trans hdb
            have hW14 := hW3'.trans hW4
            -- the slots that count are the outer frame's
            have hsz : t2.tmps.size = act.tmps.size := by
              rw [hS4.size, hS3.size]
              dsimp only
              rw [zip_fold]
              exact (setPs_slots hps _ _).2
            have hsl : ∀ j ∈ L.slots, t2.tmps.getD j undef = act.tmps.getD j undef := fun j hj => by
              rw [hS4.slots _ hwb j hj, hS3.slots _ hwa j hj]
              dsimp only
              rw [zip_fold]
              exact (setPs_slots hps _ _).1 j hj
            have pk : ∀ (Tx : Tmpl) (u : Tx.ty.den), (∀ j ∈ Tx.slots, j ∈ L.slots) → Tx.pack C.lo σ2 = some u → ∃ k5, k5.w = k4.w ∧ Rel N k0x (Tx.unpack base u) k5 { tmps := act.tmps, defers := [] } ∧ WV V k1 k5 := by
              intro Tx u hTx hu
              obtain ⟨k5, g1, g2, g3⟩ := pack_sound (base := base) hR4 hlox hu fun k' hw' hW' => by
                exact hsolid k' t2 ((hW14.trans hW').weak hVX1) hsz hsl
              exact ⟨k5, g1, g2.slots (unpack_undef hbu hTx u) hsz.symm (fun j hj => (hsl j hj).symm), hW14.trans g3⟩
            have keepV : ∀ (o : Obj) (B : Nat), V B → (k4.w.putObj (D + 1) o).heap[B]? = k'.w.heap[B]? := by
              intro o B hv
              have hX' : k'.X B := by rw [hW'.x]; exact hVX1 B hv
              have hne : B ≠ D + 1 := fun e => hr'.h.notOwn hl (hnl _ _) (by omega) (Or.inl (by rw [← e]; exact hX'))
              rw [World.putObj_heap_other hne]
              have g3 : k3.w.heap[B]? = k'.w.heap[B]? := hW3.sameN B (hr'.h.xown B hX') (hr'.h.xlow.1 B hX').lt
              have hX3 : k3.X B := by rw [hW3.x]; exact hX'
              have gb : kb.w.heap[B]? = k3.w.heap[B]? := by rw [← hkbw]; exact World.putObj_heap_other hne
              have hXb : kb.X B := by rw [← hkb]; exact hX3
              exact (hW4.sameN B (hR3'.h.xown B hXb) (hR3'.h.xlow.1 B hXb).lt).trans (gb.trans g3)
            have hend : ∀ jump, (Instr.endRound (D + 1) jump).run C.E.P k4.w = .ok (.bool jump.isNone) (k4.w.putObj (D + 1) (.loop (rec (if jump.isNone then .ready else .done) jump))) := fun jump => by
              have := run_endRound (P := C.E.P) jump hl4
              rw [hrec] at this ⊢
              exact this
            have fin : ∀ {Tx : Tmpl} {u : Tx.ty.den} {cd : Code} {ex : Ex}, (∀ j ∈ Tx.slots, j ∈ L.slots) → Tx.pack C.lo σ2 = some u → pendOf ex = some cd → some (ex, Tx.unpack base u) = some (e, σ') → ∃ v w', (Instr.endRound (D + 1) (some cd)).run C.E.P k4.w = .ok v w' ∧
                ((∀ B, V B → w'.heap[B]? = k'.w.heap[B]?) ∧ ((Ending.returned v = .returned (.bool true) ∧ J (i + 1) w') ∨ (Ending.returned v = .returned (.bool false) ∧ Jx w'))) := by
              intro Tx u cd ex hTx hu hcd hex
              simp only [Option.some.injEq, Prod.mk.injEq] at hex
              obtain ⟨rfl, rfl⟩ := hex
              obtain ⟨k5, g1, g2, g3⟩ := pk Tx u hTx hu
              have hl5 : k5.w.heap[D + 1]? = some (.loop (rec .busy none)) := by rw [g1]; exact hl4
              have hd5 : k5.w.heap[D]? = some (.deferred (some [])) := by rw [g1]; exact hd4
              refine ⟨_, _, hend (some cd), keepV _, .inr ⟨rfl, k5.on (k5.w.putObj (D + 1) (.loop (rec .done (some cd)))), cd, ?_, turn _ g2 hl5 (fun ds e => by cases e) (hnl _ _), onW _ g3, hcd, ?_, ?_⟩⟩
              · show k5.w.putObj _ _ = _
                rw [g1]; rfl
              · show (k4.w.putObj (D + 1) (.loop (rec .done (some cd)))).heap[D + 1]? = _
                exact World.putObj_heap_same (heap_lt hl4)
              · show (k4.w.putObj (D + 1) (.loop (rec .done (some cd)))).heap[D]? = _
                exact (World.putObj_heap_other (by omega)).trans hd4
            cases e2 with
            | normal =>
              simp only [roundK] at hx
              cases hu : L.T.pack C.lo σ2 with
              | none => rw [hu] at hx; cases hx
              | some u =>
                rw [hu] at hx
                simp only at hx
                obtain ⟨k5, g1, g2, g3⟩ := pk L.T u hTs hu
                have hl5 : k5.w.heap[D + 1]? = some (.loop (rec .busy none)) := by rw [g1]; exact hl4
                refine ⟨_, _, hend none, keepV _, .inl ⟨rfl, k5.on (k5.w.putObj (D + 1) (.loop (rec .ready none))), u, ?_, turn _ g2 hl5 (fun ds e => by cases e) (hnl _ _), onW _ g3, ?_, ?_, hx⟩⟩
                · show k5.w.putObj _ _ = _
                  rw [g1]; rfl
                · show (k4.w.putObj (D + 1) (.loop (rec .ready none))).heap[D + 1]? = _
                  exact World.putObj_heap_same (heap_lt hl4)
                · show (k4.w.putObj (D + 1) (.loop (rec .ready none))).heap[D]? = _
                  exact (World.putObj_heap_other (by omega)).trans hd4
            | exit m =>
              simp only [roundK] at hx
              cases hfx : findT L.exits m with
              | none => rw [hfx] at hx; cases hx
              | some Tx =>
                rw [hfx] at hx
                simp only at hx
                cases hu : Tx.pack C.lo σ2 with
                | none => rw [hu] at hx; cases hx
                | some u =>
                  rw [hu] at hx
                  refine fin (fun j hj => ?_) hu rfl hx
                  have hm : ∀ (l : List (Nat × Tmpl)), findT l m = some Tx → ∃ p ∈ l, p.2 = Tx := by
                    intro l
                    induction l with
                    | nil => intro h; cases h
                    | cons p r ih =>
                      intro h
                      obtain ⟨z, Tz⟩ := p
                      simp only [findT] at h
                      split at h
                      · cases h; exact ⟨_, List.mem_cons_self .., rfl⟩
                      · obtain ⟨q, hq, hq2⟩ := ih h; exact ⟨q, List.mem_cons_of_mem _ hq, hq2⟩
                  obtain ⟨p, hp, rfl⟩ := hm _ hfx
                  exact List.mem_append.2 (.inr (List.mem_append.2 (.inr (List.mem_append.2 (.inl (List.mem_flatMap.2 ⟨p, hp, hj⟩))))))
            | ret =>
              simp only [roundK] at hx
              cases hfx : L.rets with
              | none => rw [hfx] at hx; cases hx
              | some Tx =>
                rw [hfx] at hx
                simp only at hx
                cases hu : Tx.pack C.lo σ2 with
                | none => rw [hu] at hx; cases hx
                | some u =>
                  rw [hu] at hx
                  refine fin (fun j hj => ?_) hu rfl hx
                  refine List.mem_append.2 (.inr (List.mem_append.2 (.inr (List.mem_append.2 (.inr ?_)))))
                  rw [hfx]; exact hj
    · -- ahead of the first
      refine ⟨k2.on W1, v, rfl, ?_, ?_, hL1, hK1, hrun⟩
      · have hb1' : Below k2.w.heap.size k2.w W1 := by rw [q1, hk1w]; exact hb1
        exact hR2.bare.on (Swap.below hb1') (fun B hB => (hb1'.block B (heap_lt hB)).trans hB) (fun B hB => hb1'.block B (Nat.lt_of_lt_of_le hB hR2.ext.size)) (fun B hB => hb1'.block B (Nat.lt_of_lt_of_le hB hR2.room)) hb1'.os hb1'.tape hb1'.output
      · refine (q3.trans (on_ext ?_).wext).wv
        rw [q1, hk1w]; exact hb1
    · exact fun B hB => hb1.block B (hR.h.low B (hVO B hB)).2
    · -- behind the iterator
      have last : ∀ {kf : Kx} {jump : Option Code}, Rel N k0x σ' kf { tmps := act.tmps, defers := [] } → WV V k1 kf → kf.w.heap[D]? = some (.deferred (some [])) → ∀ st, kf.w.heap[D + 1]? = some (.loop (rec st jump)) → st ≠ .busy →
          (Instr.endLoop (D + 1)).run C.E.P kf.w = .ok jump (kf.w.putObj (D + 1) (.loop (rec .exhausted jump))) ∧ Post N k0 (.rangeFunc g ps a b) e σ' k act (exOf e) { act with defers := [Mark D] ++ act.defers } (kf.w.putObj (D + 1) (.loop (rec .exhausted jump))) := by
        intro kf jump hRf hWf hdf st hlf hst
        have ht := turn (.loop (rec .exhausted jump)) hRf hlf (fun ds e => by cases e) (hnl _ _)
        have hWg0 := onW (.loop (rec .exhausted jump)) hWf
        obtain ⟨kg, hkg⟩ : ∃ kg, kf.on (kf.w.putObj (D + 1) (.loop (rec .exhausted jump))) = kg := ⟨_, rfl⟩
        rw [hkg] at ht hWg0
        have hgw : kf.w.putObj (D + 1) (.loop (rec .exhausted jump)) = kg.w := by rw [← hkg]; rfl
        obtain ⟨kz, hkz⟩ : ∃ kz : Kx, (⟨kg.w, kg.hp, kg.μ, kg.nx, k0.X, kg.U⟩ : Kx) = kz := ⟨_, rfl⟩
        have hkzw : kz.w = kg.w := by rw [← hkz]
        have hXz : ∀ B, kz.X B → kg.X B := fun B hB => by
          rw [ht.ext.x, ← hk0x]
          rw [← hkz] at hB
          exact Or.inl hB
        have hsz : Sub kg kz := by
          refine ⟨fun B _ => by rw [hkzw], by rw [← hkz], by rw [← hkz], fun B hB => ?_, fun n b hb => by rw [← hkz] at hb; exact hb⟩
          rcases hB with hB | hB
          · exact Or.inl (hXz B hB)
          · rw [← hkz] at hB; exact Or.inr hB
        have hHz : HRel N kz := hsz.hrel ht.h (by rw [hkzw]; exact Nat.le_refl _) ⟨fun B hB => by rw [hkzw]; exact ht.h.xlow.1 B (hXz B hB), by rw [hkzw]; exact ht.h.xlow.2⟩ fun B hX hO => ht.h.xown B (hXz B hX) (hsz.own hO)
        have hEz : Ext k0 kz := by
          have E := ht.ext
          rw [← hk0x] at E
          rw [← hkz]
          exact ⟨E.same, E.own, E.size, E.u, E.arr, E.var, E.map, rfl⟩
        have hWz : WExt k kz := by
          refine ⟨fun B hB hlt => ?_, fun B hB hlt => (hOwn1 B (hWg0.ownN B (hsz.own hB) (by rw [hk1w]; exact hlt))).1, by rw [hkzw, ← hk1w]; exact hWg0.size, by rw [← hkz]; exact hR.ext.x.symm⟩
          have := hWg0.sameN B (fun ho => hB (hOwn1 B ho).1) (fun hv => hB (hVO B hv)) (by rw [hk1w]; exact hlt)
          rw [hkzw, this, hk1w]
        refine ⟨?_, rfl, kz, hkzw.trans hgw.symm, ?_, hWz, ⟨fun kp hk j hj => rfl, rfl⟩⟩
        · have := run_endLoop (P := C.E.P) hlf (by rw [hrec]; exact hst)
          rw [hrec] at this ⊢
          exact this
        · refine ⟨⟨by rw [← hkz]; exact ht.hp, by rw [← hkz]; exact ht.nx, hHz, hsz.f ht.f, hEz, by rw [hkzw]; exact ht.room, by rw [hkzw, ← hk0w]; exact ht.below, ?_⟩, by rw [← hkz]; exact ht.u⟩
          obtain ⟨Bs, h1, h2, h3⟩ := hR.defers.next hWz
          obtain ⟨_, h1', _, h3'⟩ := hR.defers
          have hBD : ∀ B ∈ Bs, B < D := by
            intro B hB
            have : Mark B ∈ act.defers := by rw [h1]; exact List.mem_map.2 ⟨B, hB, rfl⟩
            rw [h1'] at this
            obtain ⟨B', hB', e'⟩ := List.mem_map.1 this
            have : B' = B := by injection e' with e1 _; injection e1
            subst this
            have := heap_lt (h3' B' hB').2.2.2
            omega
          have hdD : kz.w.heap[D]? = some (.deferred (some [])) := by rw [hkzw, ← hgw]; exact (World.putObj_heap_other (by omega)).trans hdf
          refine ⟨D :: Bs, by show [Mark D] ++ act.defers = _; rw [h1]; rfl, List.nodup_cons.2 ⟨fun hB => by have := hBD D hB; omega, h2⟩, fun B hB => ?_⟩
          rcases List.mem_cons.1 hB with hB | hB
          · subst hB
            exact ⟨hND, hk0D', hHz.notOwn hdD hnd hND, hdD⟩
          · exact h3 B hB
      rintro e0 W2 ⟨⟨v0, rfl⟩, hfin⟩
      rcases hfin with ⟨k', v', rfl, hr', hW', hl, hd, hx⟩ | ⟨k', cd, rfl, hr', hW', hp, hl, hd⟩
      · rw [List.drop_eq_nil_of_le (by omega)] at hx
        have hx : some (Ex.normal, L.T.unpack base v') = some (e, σ') := hx
        simp only [Option.some.injEq, Prod.mk.injEq] at hx
        obtain ⟨rfl, rfl⟩ := hx
        obtain ⟨g1, g2⟩ := last hr' hW' hd .ready hl (by simp)
        exact ⟨none, _, g1, g2⟩
      · obtain ⟨g1, g2⟩ := last hr' hW' hd .done hl (by simp)
        refine ⟨some cd, _, g1, ?_⟩
        cases e with
        | normal => cases hp
        | exit m => simp only [pendOf, Option.some.injEq] at hp; subst hp; exact wpIn_exit g2
        | ret => simp only [pendOf, Option.some.injEq] at hp; subst hp; exact wpIn_ret g2

end Go.Ab
