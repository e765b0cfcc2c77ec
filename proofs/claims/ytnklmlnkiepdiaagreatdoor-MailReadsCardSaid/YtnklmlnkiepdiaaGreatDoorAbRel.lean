/-
  WHAT THE ABSTRACT STATE SAYS OF THE REAL ONE.
-/
import Derived.Test.YtnklmlnkiepdiaaGreatDoorAbDen
import Derived.Below
import Derived.Laws.Sem
set_option linter.unusedVariables false
set_option linter.unusedSectionVars false
namespace Go.Ab
open Go.RowKit (Below)

/-- n cells of a row from o on -/
def part_ (row : Array Value) (o n : Nat) : List Value := (row.toList.drop o).take n

/-- a struct, or a value of one cell -/
def Made (agg : Bool) (v : Value) : Prop := if agg = true then ∃ vs, v = .agg vs else v.cells = #[v]

/-- what a map holds -/
def EntRel (R : (t : Ty) → t.den → List Value → Prop) (k v : Ty) (xs : List (k.den × v.den)) (es : Array MapEntry) : Prop :=
  es.size = xs.length ∧ ∀ i (h : i < xs.length) (h' : i < es.size), R k xs[i].1 [es[i].key] ∧ Made v.isAgg es[i].val ∧ R v xs[i].2 es[i].val.cells.toList

/-- The cells hold this data; what they lead to lies in no block of which 'O' is true. -/
def VRel (w : World) (O : Nat → Prop) : (t : Ty) → t.den → List Value → Prop
  | .int k, n, cs => cs = [.int k n] ∧ k.wrap n = n
  | .bool, b, cs => cs = [.bool b]
  | .str, s, cs => ∃ ba : ByteArray, cs = [.string ba] ∧ s = bytesOf ba ∧ ba.size ≤ MAXL
  | .unit, _, cs => cs = []
  | .pair a b, p, cs => ∃ c1 c2, cs = c1 ++ c2 ∧ VRel w O a p.1 c1 ∧ VRel w O b p.2 c2
  | .slice e, xs, cs => ∃ a cap, cs = [.slice a (List.length xs) cap] ∧ List.length xs ≤ cap ∧ cap ≤ MAXL ∧ (xs ≠ [] → ∃ B o row E fz, a = some ⟨B, o, none⟩ ∧ ¬ O B ∧
      w.heap[B]? = some (.cells row E fz) ∧ o + List.length xs * e.size ≤ row.size ∧ ∀ i (h : i < List.length xs), VRel w O e xs[i] (part_ row (o + i * e.size) e.size))
  | .map k v, xs, cs => (cs = [.map none] ∧ xs = []) ∨ ∃ B es clk, cs = [.map (some B)] ∧ ¬ O B ∧ w.heap[B]? = some (.map es clk) ∧ es.size = List.length xs ∧
      ∀ i (h : i < List.length xs) (h' : i < es.size), VRel w O k xs[i].1 [es[i].key] ∧ Made v.isAgg es[i].val ∧ VRel w O v xs[i].2 es[i].val.cells.toList

inductive Loc where
  | none
  | at_ (B o cap : Nat)

def Loc.block : Loc → Option Nat
  | .none => Option.none
  | .at_ B _ _ => some B

/-- The world, the call's own blocks, where they lie; nx: the next name that is given; U: the names that were given. -/
structure Kx where
  w : World
  hp : Hp
  μ : Nat → Loc
  nx : Nat
  X : Nat → Prop
  U : Nat → Prop

/-- the blocks that are the call's own -/
def Kx.Own (k : Kx) (B : Nat) : Prop := ∃ n b, hget k.hp n = some b ∧ (k.μ n).block = some B

/-- the blocks that pure data may not lead to: the call's own, and its caller's -/
def Kx.O (k : Kx) (B : Nat) : Prop := k.X B ∨ k.Own B

/-- an address in the block itself; none where there is no block -/
def PB : Loc → Option Addr → Prop
  | .none, a => a = none
  | .at_ B _ _, a => ∃ o, a = some ⟨B, o, none⟩

def Hdr (l : Loc) (e : Ty) (lo len : Nat) (v : Value) : Prop :=
  match l with
  | .none => ∃ a, v = .slice a 0 0 ∧ len = 0 ∧ PB .none a
  | .at_ B o cap => ∃ a c, v = .slice a len c ∧ len ≤ c ∧ lo + c ≤ cap ∧ (a = some ⟨B, o + lo * e.size, .none⟩ ∨ (c = 0 ∧ PB (.at_ B o cap) a))

theorem Hdr.pa {l : Loc} {e : Ty} {lo len n c : Nat} {a : Option Addr} (h : Hdr l e lo len (.slice a n c)) : PB l a := by
  cases l with
  | none =>
    obtain ⟨a', e1, _, e3⟩ := h
    simp only [Value.slice.injEq] at e1
    rw [e1.1]; exact e3
  | at_ B o cap =>
    obtain ⟨a', c', e1, _, _, h3⟩ := h
    simp only [Value.slice.injEq] at e1
    rw [e1.1]
    rcases h3 with h3 | h3
    · exact ⟨_, h3⟩
    · exact h3.2

def PtrTo (k : Kx) (n off : Nat) (v : Value) : Prop :=
  (k.U n ∧ ∃ a : Addr, v = .pointer (some a)) ∧ ∀ cs, hget k.hp n = some (.var cs) → ∃ B, k.μ n = .at_ B 0 0 ∧ v = .pointer (some ⟨B, off, none⟩)

def CRel (k : Kx) : Cell → Value → Prop
  | .undef, v => v.oneCell' = true
  | .val t x, v => VRel k.w k.O t x [v]
  | .nilS, v => v = .slice none 0 0
  | .own n e, v => (k.U n ∧ v.oneCell' = true) ∧ ∀ xs, hget k.hp n = some (.arr e xs) → Hdr (k.μ n) e 0 xs.length v
  | .sub n e lo hi, v => (k.U n ∧ v.oneCell' = true) ∧ ∀ xs, hget k.hp n = some (.arr e xs) → 0 ≤ lo ∧ lo ≤ hi ∧ hi ≤ (xs.length : Int) ∧ Hdr (k.μ n) e lo.toNat (hi - lo).toNat v
  | .ptr n off, v => PtrTo k n off v
  | .pptr t x off, v => ∃ B o row E fz, v = .pointer (some ⟨B, o + off, none⟩) ∧ ¬ k.O B ∧ k.w.heap[B]? = some (.cells row E fz) ∧ o + t.size ≤ row.size ∧ VRel k.w k.O t x (part_ row o t.size)
  | .eptr n e i off, v => (k.U n ∧ ∃ a : Addr, v = .pointer (some a)) ∧ ∀ xs, hget k.hp n = some (.arr e xs) → 0 ≤ i ∧ i < (xs.length : Int) → ∃ B o cap, k.μ n = .at_ B o cap ∧ v = .pointer (some ⟨B, o + i.toNat * e.size + off, none⟩)
  | .fn f caps, v => ∃ vs : Array Value, v = .func (.func f) #[] vs ∧ caps.length = vs.size ∧ ∀ j (h : j < caps.length) (h' : j < vs.size), PtrTo k caps[j].1 caps[j].2 vs[j]
  | .clip e xs, v => ∃ a, v = .slice a xs.length xs.length ∧ VRel k.w k.O (.slice e) xs [v]
  | .mp n kt vt, v => (k.U n ∧ v.oneCell' = true) ∧ ∀ xs, hget k.hp n = some (.map kt vt xs) → ∃ B, k.μ n = .at_ B 0 0 ∧ v = .map (some B)
  | .nq b e xs, v => VRel k.w k.O (.slice e) xs [v] ∧ ∃ a n c, v = .slice a n c ∧ a.isNone = b
  | .self n t, v => (k.U n ∧ v.oneCell' = true) ∧ ∀ cs, hget k.hp n = some (.var cs) → v = .pointer none ∨ ∃ B, k.μ n = .at_ B 0 0 ∧ v = .pointer (some ⟨B, 0, none⟩)
  | .ifc b, v => (b = true ∧ v = .nilIface) ∨ (b = false ∧ ∃ t p, v = .iface t p)
  | .clp n e lo hi, v => (k.U n ∧ v.oneCell' = true) ∧ ∀ xs, hget k.hp n = some (.arr e xs) → 0 ≤ lo ∧ lo ≤ hi ∧ hi ≤ (xs.length : Int) ∧ (∃ a, v = .slice a (hi - lo).toNat (hi - lo).toNat) ∧ Hdr (k.μ n) e lo.toNat (hi - lo).toNat v

def CRels (k : Kx) : List Cell → List Value → Prop
  | [], vs => vs = []
  | c :: cs, vs => ∃ v r, vs = v :: r ∧ CRel k c v ∧ CRels k cs r

/-- a value of this make -/
def PRel (k : Kx) (agg : Bool) (cs : List Cell) (v : Value) : Prop :=
  if agg then ∃ vs : Array Value, v = .agg vs ∧ CRels k cs vs.toList else ∃ c, cs = [c] ∧ (c = .undef ∨ (CRel k c v ∧ v.cells = #[v]))

def PRels (k : Kx) : List (Bool × List Cell) → List Value → Prop
  | [], vs => vs = []
  | p :: ps, vs => ∃ v r, vs = v :: r ∧ PRel k p.1 p.2 v ∧ PRels k ps r

def ARel (k : Kx) : AVal → Value → Prop
  | .one c, v => c = .undef ∨ CRel k c v
  | .pure t x, v => t.isAgg = true ∧ ∃ vs : Array Value, v = .agg vs ∧ VRel k.w k.O t x vs.toList
  | .agg cs, v => ∃ vs : Array Value, v = .agg vs ∧ CRels k cs vs.toList
  | .tup ps, v => ∃ vs : Array Value, v = .tuple vs ∧ PRels k ps vs.toList

def Unfrozen (row : Array Value) (fz : Nat × Nat) : Prop := ∀ j, j < row.size → ¬ (fz.1 ≤ j ∧ j < fz.2)

/-- the tag of a row: of bytes it is the type of bytes (which has the number 5 in all programs) -/
def tagOf : Ty → TypeId → TypeId
  | .int .u8, _ => 5
  | _, E => E

/-- the tag of a block that points to itself -/
def TagOK (cs : List Cell) (E : TypeId) : Prop := ∀ n t r, cs = .self n t :: r → E = t

def BRel (k : Kx) (n : Nat) : Blk → Prop
  | .arr e xs => (match k.μ n with
    | .none => xs = []
    | .at_ B o cap => ∃ row E fz, k.w.heap[B]? = some (.cells row (tagOf e E) fz) ∧ Unfrozen row fz ∧ xs.length ≤ cap ∧ cap ≤ MAXL ∧ o + cap * e.size ≤ row.size ∧
        ∀ i (h : i < xs.length), VRel k.w k.O e xs[i] (part_ row (o + i * e.size) e.size))
  | .var cs => ∃ B row E fz, k.μ n = .at_ B 0 0 ∧ k.w.heap[B]? = some (.cells row E fz) ∧ Unfrozen row fz ∧ CRels k cs row.toList ∧ TagOK cs E
  | .map kt vt xs => ∃ B es clk, k.μ n = .at_ B 0 0 ∧ k.w.heap[B]? = some (.map es clk) ∧ EntRel (VRel k.w k.O) kt vt xs es

/-- cells, or a map -/
def Solid (w : World) (B : Nat) : Prop := (∃ row E fz, w.heap[B]? = some (.cells row E fz)) ∨ ∃ es clk, w.heap[B]? = some (.map es clk)

/-- What a program's package-level tables hold: blocks below 'lo' that nothing writes. -/
class Tabs where
  p : World → Prop
  lo : Nat
  mono : ∀ {w w' : World}, (∀ (B : Nat) (row : Array Value) (E : TypeId) (fz : Nat × Nat), B < lo → w.heap[B]? = some (.cells row E fz) → w'.heap[B]? = some (.cells row E fz)) → p w → p w'

abbrev noTabs : Tabs where
  p := fun _ => True
  lo := 0
  mono := fun _ _ => trivial

section
variable [Tabs]

/-- a caller's blocks, and the tables -/
def XOK (N : Nat) (X : Nat → Prop) (w : World) : Prop := (∀ B, X B → Solid w B) ∧ Tabs.p w ∧ Tabs.lo ≤ N ∧ Tabs.lo ≤ w.heap.size

structure HRel (N : Nat) (k : Kx) : Prop where
  blk : ∀ n b, hget k.hp n = some b → BRel k n b
  inj : ∀ n m b c B, hget k.hp n = some b → hget k.hp m = some c → (k.μ n).block = some B → (k.μ m).block = some B → n = m
  low : ∀ B, k.Own B → N ≤ B ∧ B < k.w.heap.size
  xlow : XOK N k.X k.w
  xown : ∀ B, k.X B → ¬ k.Own B
  names : ∀ n b, hget k.hp n = some b → k.U n

def FRel (k : Kx) (fr : Fr) (tmps : Array Value) : Prop :=
  fr.length = tmps.size ∧ ∀ i, ARel k (rdT fr i) (tmps.getD i undef)

/-! ### what is known stays known -/

/-- From k to k': the blocks that are not the call's own are as they were; names that were given keep their blocks' makes and places. -/
structure Ext (k k' : Kx) : Prop where
  same : ∀ B, ¬ k.Own B → B < k.w.heap.size → k'.w.heap[B]? = k.w.heap[B]?
  own : ∀ B, k'.Own B → B < k.w.heap.size → k.Own B
  size : k.w.heap.size ≤ k'.w.heap.size
  u : ∀ n, k.U n → k'.U n
  arr : ∀ n e xs', k.U n → hget k'.hp n = some (.arr e xs') → ∃ xs, hget k.hp n = some (.arr e xs) ∧ xs.length = xs'.length ∧ k'.μ n = k.μ n
  var : ∀ n cs', k.U n → hget k'.hp n = some (.var cs') → ∃ cs, hget k.hp n = some (.var cs) ∧ k'.μ n = k.μ n
  map : ∀ n kt vt xs', k.U n → hget k'.hp n = some (.map kt vt xs') → ∃ xs, hget k.hp n = some (.map kt vt xs) ∧ k'.μ n = k.μ n
  x : k'.X = k.X

theorem VRel.mono {w w' : World} {O O' : Nat → Prop} (same : ∀ B, ¬ O B → B < w.heap.size → w'.heap[B]? = w.heap[B]?) (own : ∀ B, O' B → B < w.heap.size → O B) :
    ∀ (t : Ty) (x : t.den) (cs : List Value), VRel w O t x cs → VRel w' O' t x cs := by
  intro t
  induction t with
  | int k => intro x cs h; exact h
  | bool => intro x cs h; exact h
  | str => intro x cs h; exact h
  | unit => intro x cs h; exact h
  | pair a b iha ihb =>
    intro x cs h
    obtain ⟨c1, c2, e, h1, h2⟩ := h
    exact ⟨c1, c2, e, iha _ _ h1, ihb _ _ h2⟩
  | slice e ih =>
    intro x cs h
    obtain ⟨a, cap, e1, h1, h2, h3⟩ := h
    refine ⟨a, cap, e1, h1, h2, fun hx => ?_⟩
    obtain ⟨B, o, row, E, fz, e2, hO, hb, hs, hv⟩ := h3 hx
    have hlt : B < w.heap.size := by
      rcases Nat.lt_or_ge B w.heap.size with h | h
      · exact h
      · rw [Array.getElem?_eq_none h] at hb; cases hb
    exact ⟨B, o, row, E, fz, e2, fun h' => hO (own B h' hlt), (same B hO hlt).trans hb, hs, fun i hi => ih _ _ (hv i hi)⟩
  | map k v ihk ihv =>
    intro x cs h
    rcases h with h | ⟨B, es, clk, e1, hO, hb, hl, hv⟩
    · exact Or.inl h
    · have hlt : B < w.heap.size := by
        rcases Nat.lt_or_ge B w.heap.size with h | h
        · exact h
        · rw [Array.getElem?_eq_none h] at hb; cases hb
      exact Or.inr ⟨B, es, clk, e1, fun h' => hO (own B h' hlt), (same B hO hlt).trans hb, hl, fun i h1 h2 => ⟨ihk _ _ (hv i h1 h2).1, (hv i h1 h2).2.1, ihv _ _ (hv i h1 h2).2.2⟩⟩

theorem Ext.sameO {k k' : Kx} (h : Ext k k') : ∀ B, ¬ k.O B → B < k.w.heap.size → k'.w.heap[B]? = k.w.heap[B]? := fun B hB hlt => h.same B (fun ho => hB (Or.inr ho)) hlt
theorem Ext.ownO {k k' : Kx} (h : Ext k k') : ∀ B, k'.O B → B < k.w.heap.size → k.O B := by
  rintro B (hB | hB) hlt
  · rw [h.x] at hB; exact Or.inl hB
  · exact Or.inr (h.own B hB hlt)

theorem Ext.v {k k' : Kx} (h : Ext k k') {t : Ty} {x : t.den} {cs : List Value} (hv : VRel k.w k.O t x cs) : VRel k'.w k'.O t x cs := VRel.mono h.sameO h.ownO t x cs hv

theorem heap_lt {w : World} {B : Nat} {o : Obj} (h : w.heap[B]? = some o) : B < w.heap.size := by
  rcases Nat.lt_or_ge B w.heap.size with h' | h'
  · exact h'
  · rw [Array.getElem?_eq_none h'] at h; cases h

theorem Ext.ptr {k k' : Kx} (h : Ext k k') {n off : Nat} {v : Value} (hp : PtrTo k n off v) : PtrTo k' n off v := by
  refine ⟨⟨h.u _ hp.1.1, hp.1.2⟩, fun cs hc => ?_⟩
  obtain ⟨cs0, h0, hm⟩ := h.var n cs hp.1.1 hc
  obtain ⟨B, e1, e2⟩ := hp.2 cs0 h0
  exact ⟨B, hm.trans e1, e2⟩

theorem Ext.c {k k' : Kx} (h : Ext k k') : ∀ {c : Cell} {v : Value}, CRel k c v → CRel k' c v := by
  intro c v hc
  cases c with
  | undef => exact hc
  | val t x => exact h.v hc
  | nilS => exact hc
  | own n e =>
    refine ⟨⟨h.u _ hc.1.1, hc.1.2⟩, fun xs hx => ?_⟩
    obtain ⟨xs0, h0, hl, hm⟩ := h.arr n e xs hc.1.1 hx
    rw [hm, ← hl]; exact hc.2 xs0 h0
  | sub n e lo hi =>
    refine ⟨⟨h.u _ hc.1.1, hc.1.2⟩, fun xs hx => ?_⟩
    obtain ⟨xs0, h0, hl, hm⟩ := h.arr n e xs hc.1.1 hx
    rw [hm, ← hl]; exact hc.2 xs0 h0
  | clp n e lo hi =>
    refine ⟨⟨h.u _ hc.1.1, hc.1.2⟩, fun xs hx => ?_⟩
    obtain ⟨xs0, h0, hl, hm⟩ := h.arr n e xs hc.1.1 hx
    rw [hm, ← hl]; exact hc.2 xs0 h0
  | ptr n off => exact h.ptr hc
  | pptr t x off =>
    obtain ⟨B, o, row, E, fz, e1, hO, hb, hs, hv⟩ := hc
    exact ⟨B, o, row, E, fz, e1, fun h' => hO (h.ownO B h' (heap_lt hb)), (h.sameO B hO (heap_lt hb)).trans hb, hs, h.v hv⟩
  | eptr n e i off =>
    refine ⟨⟨h.u _ hc.1.1, hc.1.2⟩, fun xs hx hi => ?_⟩
    obtain ⟨xs0, h0, hl, hm⟩ := h.arr n e xs hc.1.1 hx
    rw [hm]; exact hc.2 xs0 h0 (by omega)
  | fn f caps =>
    obtain ⟨vs, e1, hl, hp⟩ := hc
    exact ⟨vs, e1, hl, fun j h1 h2 => h.ptr (hp j h1 h2)⟩
  | clip e xs =>
    obtain ⟨a, e1, hv⟩ := hc
    exact ⟨a, e1, h.v hv⟩
  | mp n kt vt =>
    refine ⟨⟨h.u _ hc.1.1, hc.1.2⟩, fun xs hx => ?_⟩
    obtain ⟨xs0, h0, hm⟩ := h.map n kt vt xs hc.1.1 hx
    obtain ⟨B, e1, e2⟩ := hc.2 xs0 h0
    exact ⟨B, hm.trans e1, e2⟩
  | nq b e xs => exact ⟨h.v hc.1, hc.2⟩
  | ifc b => exact hc
  | self n t =>
    refine ⟨⟨h.u _ hc.1.1, hc.1.2⟩, fun cs hx => ?_⟩
    obtain ⟨cs0, h0, hm⟩ := h.var n cs hc.1.1 hx
    rcases hc.2 cs0 h0 with e | ⟨B, e1, e2⟩
    · exact Or.inl e
    · exact Or.inr ⟨B, hm.trans e1, e2⟩

theorem Ext.cs {k k' : Kx} (h : Ext k k') : ∀ {cs : List Cell} {vs : List Value}, CRels k cs vs → CRels k' cs vs := by
  intro cs
  induction cs with
  | nil => intro vs hc; exact hc
  | cons c cs ih =>
    intro vs hc
    obtain ⟨v, r, e, h1, h2⟩ := hc
    exact ⟨v, r, e, h.c h1, ih h2⟩

theorem Ext.p {k k' : Kx} (h : Ext k k') {agg : Bool} {cs : List Cell} {v : Value} (hc : PRel k agg cs v) : PRel k' agg cs v := by
  unfold PRel at *
  cases agg with
  | true => obtain ⟨vs, e, hv⟩ := hc; exact ⟨vs, e, h.cs hv⟩
  | false => obtain ⟨c, e, hv⟩ := hc; exact ⟨c, e, hv.imp id fun g => ⟨h.c g.1, g.2⟩⟩

theorem Ext.ps {k k' : Kx} (h : Ext k k') : ∀ {ps : List (Bool × List Cell)} {vs : List Value}, PRels k ps vs → PRels k' ps vs := by
  intro ps
  induction ps with
  | nil => intro vs hc; exact hc
  | cons c cs ih =>
    intro vs hc
    obtain ⟨v, r, e, h1, h2⟩ := hc
    exact ⟨v, r, e, h.p h1, ih h2⟩

theorem Ext.a {k k' : Kx} (h : Ext k k') {a : AVal} {v : Value} (ha : ARel k a v) : ARel k' a v := by
  cases a with
  | one c => exact ha.imp id h.c
  | pure t x => obtain ⟨ht, vs, e, hv⟩ := ha; exact ⟨ht, vs, e, h.v hv⟩
  | agg cs => obtain ⟨vs, e, hv⟩ := ha; exact ⟨vs, e, h.cs hv⟩
  | tup ps => obtain ⟨vs, e, hv⟩ := ha; exact ⟨vs, e, h.ps hv⟩

theorem Ext.f {k k' : Kx} (h : Ext k k') {fr : Fr} {tmps : Array Value} (hf : FRel k fr tmps) : FRel k' fr tmps := ⟨hf.1, fun i => h.a (hf.2 i)⟩

theorem Solid.lt {w : World} {B : Nat} (h : Solid w B) : B < w.heap.size := by
  rcases h with ⟨row, E, fz, h⟩ | ⟨es, clk, h⟩
  · exact heap_lt h
  · exact heap_lt h
theorem Solid.same {w w' : World} {B : Nat} (h : Solid w B) (hs : w'.heap[B]? = w.heap[B]?) : Solid w' B := by
  rcases h with ⟨row, E, fz, h⟩ | ⟨es, clk, h⟩
  · exact Or.inl ⟨row, E, fz, hs.trans h⟩
  · exact Or.inr ⟨es, clk, hs.trans h⟩
theorem Ext.xlow {N : Nat} {k k' : Kx} (h : Ext k k') (hk : HRel N k) : XOK N k'.X k'.w := by
  obtain ⟨h0, h2, h3, h4⟩ := hk.xlow
  refine ⟨fun B hB => ?_, Tabs.mono (fun B row E fz hB hb => ?_) h2, h3, Nat.le_trans h4 h.size⟩
  · rw [h.x] at hB
    have h1 := h0 B hB
    exact h1.same (h.same B (hk.xown B hB) h1.lt)
  · rw [h.same B (fun ho => ?_) (Nat.lt_of_lt_of_le hB h4)]
    · exact hb
    · exact Nat.not_lt.2 (hk.low B ho).1 (Nat.lt_of_lt_of_le hB h3)
theorem Ext.xown {N : Nat} {k k' : Kx} (h : Ext k k') (hk : HRel N k) : ∀ B, k'.X B → ¬ k'.Own B := by
  intro B hB ho
  rw [h.x] at hB
  exact hk.xown B hB (h.own B ho (hk.xlow.1 B hB).lt)

/-- blocks that are the call's own, or its caller's, are rows of cells or maps -/
theorem HRel.cells {N : Nat} {k : Kx} (h : HRel N k) {B : Nat} (hB : k.O B) : Solid k.w B := by
  rcases hB with hB | ⟨n, b, h1, h2⟩
  · exact h.xlow.1 B hB
  · have hb := h.blk n b h1
    cases b with
    | arr e xs =>
      unfold BRel at hb
      cases hm : k.μ n with
      | none => rw [hm] at h2; cases h2
      | at_ B' o cap =>
        rw [hm] at h2 hb
        simp only [Loc.block, Option.some.injEq] at h2
        subst h2
        obtain ⟨row, E, fz, h3, _⟩ := hb
        exact Or.inl ⟨row, _, fz, h3⟩
    | var cs =>
      obtain ⟨B', row, E, fz, hm, h3, _⟩ := hb
      rw [hm] at h2
      simp only [Loc.block, Option.some.injEq] at h2
      subst h2
      exact Or.inl ⟨row, E, fz, h3⟩
    | map kt vt xs =>
      obtain ⟨B', es, clk, hm, h3, _⟩ := hb
      rw [hm] at h2
      simp only [Loc.block, Option.some.injEq] at h2
      subst h2
      exact Or.inr ⟨es, clk, h3⟩

theorem Ext.refl (k : Kx) : Ext k k := ⟨fun _ _ _ => rfl, fun _ h _ => h, Nat.le_refl _, fun _ h => h, fun n e xs _ h => ⟨xs, h, rfl, rfl⟩, fun n cs _ h => ⟨cs, h, rfl⟩, fun n kt vt xs _ h => ⟨xs, h, rfl⟩, rfl⟩

theorem Ext.trans {k k' k'' : Kx} (h : Ext k k') (h' : Ext k' k'') : Ext k k'' where
  same := fun B hB hlt => (h'.same B (fun hO => hB (h.own B hO hlt)) (Nat.lt_of_lt_of_le hlt h.size)).trans (h.same B hB hlt)
  own := fun B hB hlt => h.own B (h'.own B hB (Nat.lt_of_lt_of_le hlt h.size)) hlt
  size := Nat.le_trans h.size h'.size
  u := fun n hn => h'.u n (h.u n hn)
  arr := fun n e xs'' hn hc => by
    obtain ⟨xs', h1, h2, h3⟩ := h'.arr n e xs'' (h.u n hn) hc
    obtain ⟨xs, h4, h5, h6⟩ := h.arr n e xs' hn h1
    exact ⟨xs, h4, h5.trans h2, h3.trans h6⟩
  var := fun n cs'' hn hc => by
    obtain ⟨cs', h1, h3⟩ := h'.var n cs'' (h.u n hn) hc
    obtain ⟨cs, h4, h6⟩ := h.var n cs' hn h1
    exact ⟨cs, h4, h3.trans h6⟩
  map := fun n kt vt xs'' hn hc => by
    obtain ⟨xs', h1, h3⟩ := h'.map n kt vt xs'' (h.u n hn) hc
    obtain ⟨xs, h4, h6⟩ := h.map n kt vt xs' hn h1
    exact ⟨xs, h4, h3.trans h6⟩
  x := h'.x.trans h.x

end

end Go.Ab
