/-
  THE ABSTRACT EVALUATOR: code. 'denC' runs a code on an abstract state and hands what comes to a continuation, whatever the continuation's type: at 'Option' it computes, at 'Prop' it is what is to be shown.
-/
import Derived.Test.YtnklmlnkiepdiaaGreatDoorAbOps
set_option linter.unusedVariables false
namespace Go.Ab

/-- Go goes on under a test. -/
def gate {R : Type} (b : Bool) (k s : R) : R := if b = true then k else s

def bindO {α R : Type} (o : Option α) (k : α → R) (s : R) : R :=
  match o with
  | some a => k a
  | none => s

/-- n rounds at the most -/
def iter {V R : Type} (step : (V → R) → V → R) (s : R) : Nat → V → R
  | 0, _ => s
  | n + 1, v => step (iter step s n) v

/-- a round for each element of a list -/
def foldR {V E R : Type} (step : E → (V → R) → V → R) (done : V → R) : List E → V → R
  | [], v => done v
  | x :: xs, v => step x (foldR step done xs) v

/-- How a piece of code is left. -/
inductive Ex where
  | normal
  | exit (id : Nat)
  | ret

/-- A function of Go that turns nothing of its caller's: typed data in, typed data out. 'own': those cells of the results that lie in new blocks of their own. -/
structure TFun where
  arg : Ty
  res : Ty
  args : List (Bool × Nat)
  parts : List (Bool × Nat)
  own : List Nat
  f : arg.den → Option res.den

/-- A function of Go whose first argument points to a struct of its caller's own: the struct's content goes in and comes back. -/
structure MFun where
  cont : Ty
  arg : Ty
  res : Ty
  args : List (Bool × Nat)
  parts : List (Bool × Nat)
  own : List Nat
  f : cont.den × arg.den → Option (res.den × cont.den)

def cellTys : Ty → List Ty
  | .unit => []
  | .pair a b => cellTys a ++ cellTys b
  | t => [t]

def freshTy (own : List Nat) : Nat → List Ty → Bool
  | _, [] => true
  | k, t :: r => (t.flatOnly || (own.contains k && (match t with | .slice e => e.flatOnly | _ => false))) && freshTy own (k + 1) r

/-- What such a call hands back leads to nothing that was there. -/
def TFun.fresh (T : TFun) : Bool := freshTy T.own 0 (cellTys T.res)

/-- The results' cells; those that are the caller's own from now on get names. -/
def ownize (own : List Nat) : Nat → Nat → List Cell → List Cell × List HAct × Nat
  | _, _, [] => ([], [], 0)
  | k, nx, c :: r =>
    if own.contains k then
      match c with
      | .val (.slice e) xs => let t := ownize own (k + 1) (nx + 1) r
        (.own nx e :: t.1, .put nx (.arr e xs) :: t.2.1, t.2.2 + 1)
      | c => let t := ownize own (k + 1) nx r
        (c :: t.1, t.2)
    else let t := ownize own (k + 1) nx r
      (c :: t.1, t.2)

def deal : List (Bool × Nat) → List Cell → List (Bool × List Cell)
  | [], _ => []
  | (agg, n) :: r, cs => (agg, cs.take n) :: deal r (cs.drop n)

def mkRes (parts : List (Bool × Nat)) (cs : List Cell) : AVal :=
  match parts with
  | [(agg, _)] => mkV agg cs
  | ps => .tup (deal ps cs)

/-! ### templates: the shape of a state at a loop's head, behind a test's two arms, at an exit -/
inductive TC where
  | hole
  | own (n : Nat)
  | ref (n : Nat) (e : Ty)
  | cut (n : Nat) (e : Ty)
  | ptr (n off : Nat)
  | fn (f : Nat) (caps : List (Nat × Nat))
  | nil
  | any
  | self (n t : Nat)

inductive TV where
  | one (c : TC)
  | pure
  | agg (cs : List TC)

inductive TB where
  | arr
  | var (cs : List TC)

structure Tmpl where
  len : Nat := 0
  live : List (Nat × TV)
  vars : List (Nat × List TC) := []
  abs : List (Nat × TB) := []
  nx : Nat := 0
  ty : Ty

/-- names of the template against names of the state -/
abbrev Ren := List (Nat × Nat)

def bindN (ρ : Ren) (n m : Nat) : Option Ren :=
  match ρ with
  | [] => some [(n, m)]
  | (a, b) :: r => if a = n then (if b = m then some ((a, b) :: r) else none) else if b = m then none else (bindN r n m).map ((a, b) :: ·)

def bindAll : Ren → List (Nat × Nat) → List (Nat × Nat) → Option Ren
  | ρ, [], [] => some ρ
  | ρ, (n, o) :: r, (m, o') :: r' => if o = o' then match bindN ρ n m with | some ρ => bindAll ρ r r' | none => none else none
  | _, _, _ => none

/-- what a hole is filled with: a cell, or a whole struct's cells -/
abbrev Item := Bool × List Cell

/-- what a cell of the state gives to the holes -/
def collC (ρ : Ren) : TC → Cell → Option (Ren × List Item)
  | .any, _ => some (ρ, [])
  | .hole, c => some (ρ, [(false, [c])])
  | .own _, .own m e => some (ρ, [(false, [.own m e])])
  | .own _, .sub m e lo hi => some (ρ, [(false, [.sub m e lo hi])])
  | .own _, .clp m e lo hi => some (ρ, [(false, [.clp m e lo hi])])
  | .own _, .nilS => some (ρ, [(false, [.nilS])])
  | .own _, .mp m k v => some (ρ, [(false, [.mp m k v])])
  | .ref n e, .own m e' => if n = m ∧ e = e' then (bindN ρ n m).map (·, []) else none
  | .cut n e, .sub m e' lo hi => if n = m ∧ e = e' then (bindN ρ n m).map (·, [(false, [.val (.int .i64) lo]), (false, [.val (.int .i64) hi])]) else none
  | .nil, .nilS => some (ρ, [])
  | .ptr n off, .ptr m off' => if off = off' then (bindN ρ n m).map (·, []) else none
  | .fn f caps, .fn f' caps' => if f = f' then (bindAll ρ caps caps').map (·, []) else none
  | .self n t, .self m t' => if t = t' then (bindN ρ n m).map (·, []) else none
  | _, _ => none

def collCs : Ren → List TC → List Cell → Option (Ren × List Item)
  | ρ, [], [] => some (ρ, [])
  | ρ, t :: ts, c :: cs => match collC ρ t c with
    | some (ρ, l) => match collCs ρ ts cs with
      | some (ρ, l') => some (ρ, l ++ l')
      | none => none
    | none => none
  | _, _, _ => none

def collV (ρ : Ren) (t : TV) (v : AVal) : Option (Ren × List Item) :=
  match t, v with
  | .one t, .one c => collC ρ t c
  | .pure, .pure ty x => some (ρ, [(true, flat ty x)])
  | .pure, .agg cs => some (ρ, [(true, cs)])
  | .agg ts, v => match v with
    | .pure ty x => collCs ρ ts (flat ty x)
    | .agg cs => collCs ρ ts cs
    | _ => none
  | _, _ => none

def collFr (fr : Fr) : Ren → List (Nat × TV) → Option (Ren × List Item)
  | ρ, [] => some (ρ, [])
  | ρ, (i, t) :: r => match collV ρ t (rdT fr i) with
    | some (ρ, l) => match collFr fr ρ r with
      | some (ρ, l') => some (ρ, l ++ l')
      | none => none
    | none => none

def renOf : Ren → Nat → Option Nat
  | [], _ => none
  | (a, b) :: r, n => if a = n then some b else renOf r n

def collHp (hp : Hp) : Ren → List (Nat × List TC) → Option (Ren × List Item)
  | ρ, [] => some (ρ, [])
  | ρ, (n, ts) :: r => match renOf ρ n with
    | some m => match hget hp m with
      | some (.var cs) => match collCs ρ ts cs with
        | some (ρ, l) => match collHp hp ρ r with
          | some (ρ, l') => some (ρ, l ++ l')
          | none => none
        | none => none
      | _ => none
    | none => none

def collAbs (hp : Hp) : Ren → List (Nat × TB) → Option (Ren × List Item)
  | ρ, [] => some (ρ, [])
  | ρ, (n, b) :: r => match b, hget hp n with
    | .arr, some (.arr e _) => match bindN ρ n n with
      | some ρ => match collAbs hp ρ r with
        | some (ρ, l') => some (ρ, (false, [.own n e]) :: l')
        | none => none
      | none => none
    | .arr, some (.map kt vt _) => match collAbs hp ρ r with
      | some (ρ, l') => some (ρ, (false, [.mp n kt vt]) :: l')
      | none => none
    | .var ts, some (.var cs) => match bindN ρ n n with
      | some ρ => match collCs ρ ts cs with
        | some (ρ, l) => match collAbs hp ρ r with
          | some (ρ, l') => some (ρ, l ++ l')
          | none => none
        | none => none
      | none => none
    | _, _ => none

def nodupB : List Nat → Bool
  | [] => true
  | a :: r => !r.contains a && nodupB r

/-- the names that a template's cells mention, and those of its blocks -/
def TC.owns : TC → List Nat
  | .own n => [n]
  | _ => []
def TC.refs : TC → List Nat
  | .ptr n _ => [n]
  | .ref n _ => [n]
  | .cut n _ => [n]
  | .fn _ caps => caps.map (·.1)
  | .self n _ => [n]
  | _ => []
def TV.cells : TV → List TC
  | .one c => [c]
  | .pure => []
  | .agg cs => cs
def TB.cells : TB → List TC
  | .arr => []
  | .var cs => cs
/-- the names that a block is given to -/
def Tmpl.given (T : Tmpl) : List Nat :=
  T.abs.flatMap (fun p => p.2.cells.flatMap TC.owns) ++ (T.live.flatMap (fun p => p.2.cells.flatMap TC.owns) ++ T.vars.flatMap (fun p => p.2.flatMap TC.owns))
/-- the template's own blocks -/
def Tmpl.locals (T : Tmpl) : List Nat :=
  T.abs.flatMap (fun p => p.2.cells.flatMap TC.owns) ++ (T.live.flatMap (fun p => p.2.cells.flatMap TC.owns) ++ T.vars.flatMap (fun p => p.1 :: p.2.flatMap TC.owns))
def Tmpl.refs (T : Tmpl) : List Nat :=
  T.abs.flatMap (fun p => p.2.cells.flatMap TC.refs) ++ (T.live.flatMap (fun p => p.2.cells.flatMap TC.refs) ++ T.vars.flatMap (fun p => p.2.flatMap TC.refs))
/-- all its blocks, in the order that they are filled -/
def Tmpl.names (T : Tmpl) : List Nat :=
  T.abs.flatMap (fun p => p.1 :: p.2.cells.flatMap TC.owns) ++ (T.live.flatMap (fun p => p.2.cells.flatMap TC.owns) ++ T.vars.flatMap (fun p => p.1 :: p.2.flatMap TC.owns))
def Tmpl.ok (T : Tmpl) (lo : Nat) : Bool :=
  nodupB T.names && T.names.all (fun n => decide (n < T.nx)) && T.locals.all (fun n => decide (lo ≤ n)) && T.refs.all (fun n => decide (n < T.nx)) && decide (lo ≤ T.nx)

/-- the holes' data in order: 'ty' is a chain of pairs, an entry a hole, ended by the unit -/
def parseItems (look : Nat → Option Blk) : (t : Ty) → List Item → Option t.den
  | .unit, [] => some ()
  | .pair a b, (g, cs) :: r => if a.isAgg = g then match parseAll look a cs with
      | some x => (parseItems look b r).map fun y => (x, y)
      | none => none
    else none
  | _, _ => none

/-! ### freezing -/
def frzV (n : Nat) (b : Blk) : AVal → AVal
  | .one c => .one (frzCell n b c)
  | .agg cs => .agg (cs.map (frzCell n b))
  | .tup ps => .tup (ps.map fun p => (p.1, p.2.map (frzCell n b)))
  | v => v

def frzB (n : Nat) (b : Blk) : Blk → Blk
  | .var cs => .var (cs.map (frzCell n b))
  | b => b

/-- What a block holds reads as pure data from now on; the block is the call's own no more. -/
def frz1 (fr : Fr) (hp : Hp) (n : Nat) : Fr × Hp :=
  match hget hp n with
  | some b => (fr.map (frzV n b), (hrem hp n).map fun e => (e.1, frzB n b e.2))
  | none => (fr, hp)

def frzAll (fr : Fr) (hp : Hp) : List Nat → Fr × Hp
  | [] => (fr, hp)
  | n :: r => let s := frz1 fr hp n
    frzAll s.1 s.2 r

def Tmpl.pack0 (T : Tmpl) (lo : Nat) (σ : St) : Option T.ty.den :=
  if T.ok lo then match collAbs σ.hp [] T.abs with
  | some (ρ, l0) => match collFr σ.fr ρ T.live with
    | some (ρ, l) => match collHp σ.hp ρ T.vars with
      | some (ρ, l') =>
        if nodupB ((l0 ++ (l ++ l')).flatMap fun i => i.2.flatMap ownOf) && T.given.all (fun n => (renOf ρ n).isNone) then parseItems (hget σ.hp) T.ty (l0 ++ (l ++ l')) else none
      | none => none
    | none => none
  | none => none
  else none

def dupsOf : List Nat → List Nat
  | [] => []
  | a :: r => if r.contains a then a :: dupsOf r else dupsOf r

/-- the blocks that a template meets twice -/
def Tmpl.dups (T : Tmpl) (σ : St) : List Nat :=
  match collAbs σ.hp [] T.abs with
  | some (ρ, l0) => match collFr σ.fr ρ T.live with
    | some (ρ, l) => match collHp σ.hp ρ T.vars with
      | some (_, l') => dupsOf ((l0 ++ (l ++ l')).flatMap fun i => i.2.flatMap ownOf)
      | none => []
    | none => []
  | none => []

/-- A block that is met twice reads as pure data from here on. -/
def Tmpl.pack (T : Tmpl) (lo : Nat) (σ : St) : Option T.ty.den :=
  let s := frzAll σ.fr σ.hp (T.dups σ)
  T.pack0 lo { fr := s.1, hp := s.2, nx := σ.nx }

/-- the holes filled: the cell, the blocks that come with it, the cells that are left -/
def fillC : TC → List Cell → Cell × Hp × List Cell
  | .hole, c :: r => (c, [], r)
  | .own n, .val (.slice e) xs :: r => (.own n e, [(n, .arr e xs)], r)
  | .own n, .val (.map k v) xs :: r => (.mp n k v, [(n, .map k v xs)], r)
  | .ref n e, r => (.own n e, [], r)
  | .cut n e, .val (.int _) lo :: .val (.int _) hi :: r => (.sub n e lo hi, [], r)
  | .ptr n off, r => (.ptr n off, [], r)
  | .fn f caps, r => (.fn f caps, [], r)
  | .nil, r => (.nilS, [], r)
  | .self n t, r => (.self n t, [], r)
  | _, r => (.undef, [], r)

def fillCs : List TC → List Cell → List Cell × Hp × List Cell
  | [], r => ([], [], r)
  | t :: ts, r => let a := fillC t r
    let b := fillCs ts a.2.2
    (a.1 :: b.1, a.2.1 ++ b.2.1, b.2.2)

def fillV : TV → List Cell → AVal × Hp × List Cell
  | .one c, r => let a := fillC c r
    (.one a.1, a.2.1, a.2.2)
  | .agg cs, r => let a := fillCs cs r
    (.agg a.1, a.2.1, a.2.2)
  | .pure, .pptr ty x _ :: r => (.pure ty x, [], r)
  | .pure, r => (.one .undef, [], r)

/-- The frame and the blocks of a template, filled. -/
def fillFr : Fr → List (Nat × TV) → List Cell → Fr × Hp × List Cell
  | fr, [], r => (fr, [], r)
  | fr, (i, t) :: ts, r => let a := fillV t r
    let b := fillFr (fr.set i a.1) ts a.2.2
    (b.1, a.2.1 ++ b.2.1, b.2.2)

def fillHp : List (Nat × List TC) → List Cell → Hp
  | [], _ => []
  | (n, ts) :: vs, r => let a := fillCs ts r
    (n, .var a.1) :: (a.2.1 ++ fillHp vs a.2.2)

def fillAbs : List (Nat × TB) → List Cell → Hp × List Cell
  | [], r => ([], r)
  | (n, .arr) :: vs, r => match r with
    | .val (.slice e) xs :: r => let b := fillAbs vs r
      ((n, .arr e xs) :: b.1, b.2)
    | .val (.map k v) xs :: r => let b := fillAbs vs r
      ((n, .map k v xs) :: b.1, b.2)
    | r => fillAbs vs r
  | (n, .var ts) :: vs, r => let a := fillCs ts r
    let b := fillAbs vs a.2.2
    ((n, .var a.1) :: (a.2.1 ++ b.1), b.2)

/-- The data of the holes in order. -/
def chain : (t : Ty) → t.den → List Cell
  | .pair a b, p => (if a.isAgg = true then .pptr a p.1 0 else .val a p.1) :: chain b p.2
  | _, _ => []

def Tmpl.unpack (T : Tmpl) (base : Fr) (v : T.ty.den) : St :=
  let z := fillAbs T.abs (chain T.ty v)
  let a := fillFr base T.live z.2
  { fr := a.1, hp := z.1 ++ (a.2.1 ++ fillHp T.vars a.2.2), nx := T.nx }

/-- a value that hangs on no block -/
def solidV : AVal → AVal
  | .one (.val t x) => .one (.val t x)
  | .one (.pptr t x off) => .one (.pptr t x off)
  | .one (.fn f []) => .one (.fn f [])
  | .pure t x => .pure t x
  | _ => .one .undef

def baseOf : Fr → List Nat → Fr → Fr
  | _, [], b => b
  | fr, i :: r, b => baseOf fr r (b.set i (solidV (rdT fr i)))

/-- The frame with nothing but the slots that are kept. -/
def keepFr (keep : List Nat) (fr : Fr) : Fr := baseOf fr keep (List.replicate fr.length (.one .undef))

/-- The kept slots of a loop, as typed data; they hang on no block. -/
def Tmpl.packK (T : Tmpl) (σ : St) : Option T.ty.den :=
  match collFr σ.fr [] T.live with
  | some (_, l) => if decide (T.len = σ.fr.length) && (l.flatMap fun i => i.2.flatMap namesOfCell).isEmpty && (T.live.flatMap fun p => p.2.cells.flatMap fun t => t.owns ++ t.refs).isEmpty then parseItems (hget σ.hp) T.ty l else none
  | none => none

def Tmpl.base (T : Tmpl) (c : T.ty.den) : Fr := (fillFr (List.replicate T.len (.one .undef)) T.live (chain T.ty c)).1

def Tmpl.slots (T : Tmpl) : List Nat := T.live.map (·.1)

def opsWrite (keep : List Nat) (ops : List Oper) : Bool := ops.any fun o => match o.dst with | some d => keep.contains d | none => false

/-- Does a code write one of these slots? -/
def writes (keep : List Nat) : Code → Bool
  | .skip => false
  | .region _ ops _ => opsWrite keep ops.toList
  | .seq a b => writes keep a || writes keep b
  | .cond _ a b => writes keep a || writes keep b
  | .block _ a => writes keep a
  | .loop a => writes keep a
  | .exit _ => false
  | .ret => false
  | .rangeFunc _ _ _ _ => false
  | _ => true

/-- Is a range over a function in it? -/
def noRange : Code → Bool
  | .seq a b => noRange a && noRange b
  | .cond _ a b => noRange a && noRange b
  | .block _ a => noRange a
  | .loop a => noRange a
  | .rangeFunc _ _ _ _ => false
  | _ => true

/-! ### summaries -/
/-- A loop: its head's template, where it may be left, and what it does. -/
structure LoopSum where
  T : Tmpl
  keep : Tmpl
  exits : List (Nat × Tmpl)
  rets : Option Tmpl
  run : {R : Type} → (Ex → St → R) → R → keep.ty.den → T.ty.den → R

/-- A range over a function: what comes, one after the other, as typed data; the state between two rounds. -/
structure RngSum where
  T : Tmpl
  keep : Tmpl
  te : Ty
  parts : List (Bool × Nat)
  exits : List (Nat × Tmpl)
  rets : Option Tmpl
  get : (Nat → Option Blk) → Nat → List (Nat × Nat) → Option (List te.den)
  run : {R : Type} → (Ex → St → R) → R → keep.ty.den → List te.den → T.ty.den → R

def RngSum.slots (L : RngSum) : List Nat := L.keep.slots ++ (L.T.slots ++ (L.exits.flatMap (fun p => p.2.slots) ++ (match L.rets with | some T => T.slots | none => [])))

/-- A function that is run in its caller's state. -/
structure InlSum where
  run : {R : Type} → List AVal → Hp → Nat → (AVal → Hp → Nat → R) → R → R

inductive HT where
  | nil
  | node (l r : HT)
  | join (T : Tmpl) (keep : List Nat) (h : HT)
  | loop (id : Nat) (h : HT)
  | rng (id : Nat) (h : HT)
  | test (d : Nat) (ms : List Nat)
  | draw (ms : List Nat)
  | pair (ms : List Nat)

def HT.l : HT → HT
  | .node l _ => l
  | _ => .nil

def HT.r : HT → HT
  | .node _ r => r
  | _ => .nil

structure Ctx where
  E : Env
  Φ : Nat → Option TFun
  Ψ : Nat → Nat → Option InlSum
  Λ : Nat → Option LoopSum
  Γ : Nat → Option RngSum := fun _ => none
  M : Nat → Option MFun := fun _ => none
  lo : Nat := 0
  Q : Nat → Option TFun := fun _ => none

/-! ### acts -/
def act (hp : Hp) : HAct → Hp
  | .put n b => hput hp n b
  | .rem n => hrem hp n

def acts : Hp → List HAct → Hp
  | hp, [] => hp
  | hp, a :: r => acts (act hp a) r

def St.after (σ : St) (o : Out) (d : Option Tmp) : St :=
  let s := frzAll σ.fr σ.hp o.frz
  { fr := putT s.1 d o.v, hp := acts s.2 o.acts, nx := σ.nx + o.made }

/-! ### how an operation may touch the blocks -/
inductive Foot where
  | still (ns ls : List Nat)
  | eff (rs ms : List Nat) (fz : Bool)
  | all

def namesOfV : AVal → List Nat
  | .one c => namesOfCell c
  | .pure _ _ => []
  | .agg cs => cs.flatMap namesOfCell
  | .tup ps => ps.flatMap fun p => p.2.flatMap namesOfCell

def HAct.name : HAct → Nat
  | .put n _ => n
  | .rem n => n

/-- the variables that hold what is frozen -/
def holders (fz : List Nat) : Hp → List Nat
  | [] => []
  | (n, .var cs) :: r => if (cs.flatMap namesOfCell).any fz.contains then n :: holders fz r else holders fz r
  | _ :: r => holders fz r

def touched (fr : Fr) (o : Op) : List Nat := o.operands.toList.flatMap fun
  | .tmp t => namesOfV (rdT fr t)
  | _ => []

/-- operations that look at no block -/
def blind : Op → Bool
  | .move _ => true
  | .assign _ => true
  | .build _ _ => true
  | .nilCheck _ => true
  | .binOp _ _ _ _ _ => true
  | .unOp _ _ _ => true
  | .fieldAddr _ _ _ => true
  | .field _ _ _ => true
  | .extract _ _ => true
  | .pick _ _ _ => true
  | _ => false

def lookedAt (fr : Fr) (o : Op) : List Nat := if blind o = true then [] else touched fr o

def footOf (σ : St) (o : Op) (out : Out) : Foot :=
  match out.frz, out.acts, out.made with
  | [], [], 0 => .still (touched σ.fr o ++ namesOfV out.v) (lookedAt σ.fr o)
  | fz, as, _ => .eff (touched σ.fr o ++ namesOfV out.v) (as.map HAct.name ++ fz ++ holders fz σ.hp) (!fz.isEmpty)

def disj (xs ys : List Nat) : Bool := xs.all fun x => !ys.contains x

/-- Two operations in an order that nothing binds: the first one, the second one. -/
def compat : Foot → Foot → Bool
  | .still _ _, .still _ _ => true
  | .still ns _, .eff _ ms _ => disj ns ms
  | .eff _ ms fz, .still ns _ => !fz && disj ns ms
  | _, _ => false

/-- the names that it looks at, those that it changes; it freezes nothing and is no call that is run in its caller's state -/
def Foot.rd : Foot → List Nat
  | .still _ ls => ls
  | .eff rs _ _ => rs
  | .all => []
def Foot.wr : Foot → List Nat
  | .eff _ ms _ => ms
  | _ => []
def Foot.here : Foot → Bool
  | .still _ _ => true
  | .eff _ _ fz => !fz
  | .all => false
/-- Two operations that both may change blocks, in an order that nothing binds. -/
def pairs (f g : Foot) : Bool := disj f.rd g.wr && disj g.rd f.wr && disj f.wr g.wr

abbrev Tr := List (Nat × Oper × Foot)

def fitsTr (b : Bool) (ops : Array Oper) (m : Nat) (o : Oper) (f : Foot) (tr : Tr) : Bool :=
  (!b || f.here) && tr.all fun x => m.testBit x.1 || (Oper.apart ops x.2.1 o && (if b = true then pairs x.2.2 f else compat x.2.2 f))

/-- the operations that are bound to come before one -/
def maskOf (ms : List Nat) (o : Oper) : Nat :=
  o.after.toList.foldl (fun m e => if Region.binds .any e then m ||| ((1 <<< e.on) ||| ms.getD e.on 0) else m) 0

def masksOK (ms : List Nat) : Nat → List Oper → Bool
  | _, [] => true
  | j, o :: r => (o.after.toList.all fun e => !Region.binds .any e || decide (e.on < j)) && decide (maskOf ms o = ms.getD j 0) && masksOK ms (j + 1) r

def Foot.isStill : Foot → Bool
  | .still _ _ => true
  | _ => false

/-! ### operations -/
def shapeV : AVal → Bool × Nat
  | .one _ => (false, 1)
  | .pure t _ => (true, t.size)
  | .agg cs => (true, cs.length)
  | .tup _ => (false, 0)

/-- what goes into a method -/
def mutIn (M : MFun) (look : Nat → Option Blk) (n : Nat) (as : List AVal) : Option (M.cont.den × M.arg.den) :=
  match look n with
  | some (.var cs) => if as.all known && decide (as.map shapeV = M.args) && (cs.flatMap namesOfCell).isEmpty && !(owns (as.flatMap cellsOf)).contains n then (match parseAll look M.cont cs, parseAll look M.arg (as.flatMap cellsOf) with
      | some x, some a => some (x, a)
      | _, _ => none) else none
  | _ => none

def ownArg : AVal → Bool
  | .one (.own _ _) => true
  | .one .nilS => true
  | _ => false

/-- what goes into a function that leaves its arguments' blocks their owner's -/
def qIn (T : TFun) (look : Nat → Option Blk) (args : List AVal) : Option T.arg.den :=
  if args.all ownArg && decide (args.map shapeV = T.args) then parseAll look T.arg (args.flatMap cellsOf) else none

def callQ {R : Type} (T : TFun) (σ : St) (args : List AVal) (K : Out → R) (s : R) : R :=
  match qIn T (hget σ.hp) args with
  | some a => bindO (T.f a) (fun r =>
      let w := ownize T.own 0 σ.nx (flat T.res r)
      if w.2.1.isEmpty = true then s else K { test := true, v := mkRes T.parts w.1, acts := w.2.1, made := w.2.2 }) s
  | none => s

def callM0 (C : Ctx) {R : Type} (d : Nat) (σ : St) (g : Nat) (caps : List (Nat × Nat)) (args : List AVal) (K : Out → R) (I : AVal → Hp → Nat → R) (s : R) : R :=
  match C.M g, caps, args with
  | some M, [], .one (.ptr n 0) :: as => match mutIn M (hget σ.hp) n as with
    | some x => bindO (M.f x) (fun p =>
        let w := ownize M.own 0 σ.nx (flat M.res p.1)
        K { test := true, v := mkRes M.parts w.1, frz := owns (as.flatMap cellsOf), acts := w.2.1 ++ [.put n (.var (flat M.cont p.2))], made := w.2.2 }) s
    | none => s
  | _, _, _ => match C.Ψ g d with
    | some J => J.run (args ++ caps.map fun c => .one (.ptr c.1 c.2)) σ.hp σ.nx I s
    | none => s

def callM (C : Ctx) {R : Type} (d : Nat) (σ : St) (g : Nat) (caps : List (Nat × Nat)) (args : List AVal) (K : Out → R) (I : AVal → Hp → Nat → R) (s : R) : R :=
  match C.Q g, caps with
  | some T, [] => callQ T σ args K s
  | _, _ => callM0 C d σ g caps args K I s

def callA (C : Ctx) {R : Type} (d : Nat) (σ : St) (f : Cell) (args : List AVal) (K : Out → R) (I : AVal → Hp → Nat → R) (s : R) : R :=
  match f with
  | .fn g caps => match C.Φ g, caps with
    | some T, [] =>
      match (if args.all known && decide (args.map shapeV = T.args) then parseAll (hget σ.hp) T.arg (args.flatMap cellsOf) else none) with
      | some a => bindO (T.f a) (fun r =>
          let w := ownize T.own 0 σ.nx (flat T.res r)
          K { test := true, v := mkRes T.parts w.1, frz := if T.fresh then [] else owns (args.flatMap cellsOf), acts := w.2.1, made := w.2.2 }) s
      | none => s
    | _, _ => callM C d σ g caps args K I s
  | _ => s

def execA (C : Ctx) {R : Type} (o : Oper) (σ : St) (K : Foot → St → R) (s : R) : R :=
  match o.op with
  | .pick c a b => match rdC σ.fr c with
    | .val .bool t => if t = true then K (footOf σ o.op { test := true, v := rd σ.fr a }) { σ with fr := putT σ.fr o.dst (rd σ.fr a) }
      else K (footOf σ o.op { test := true, v := rd σ.fr b }) { σ with fr := putT σ.fr o.dst (rd σ.fr b) }
    | _ => s
  | .call { callee := .value f, args, .. } =>
    callA C (o.dst.getD 0) σ (rdC σ.fr f) (args.toList.map (rd σ.fr)) (fun out => K (footOf σ o.op out) (σ.after out o.dst)) (fun v hp nx => K .all { fr := putT σ.fr o.dst v, hp, nx }) s
  | op => match stepA C.E (hget σ.hp) σ.fr σ.nx op with
    | some out => gate out.test (K (footOf σ o.op out) (σ.after out o.dst)) s
    | none => s

def skipA {R : Type} (o : Oper) (σ : St) (K : Foot → St → R) : R := K (.still [] []) { σ with fr := putT σ.fr o.dst (.tup []) }

def dstOf (ops : Array Oper) (j : Nat) : Option Tmp := (ops[j]?).bind (·.dst)

def oneA (C : Ctx) {R : Type} (ops : Array Oper) (o : Oper) (σ : St) (K : Foot → St → R) (s : R) : R :=
  match o.guard with
  | none => execA C o σ K s
  | some (j, want) => match dstOf ops j with
    | some d => match rdT σ.fr d with
      | .one (.val .bool t) =>
        if t = true then (if want = true then execA C o { σ with fr := σ.fr.set d (.one (.val .bool true)) } K s else skipA o { σ with fr := σ.fr.set d (.one (.val .bool true)) } K)
        else (if want = true then skipA o { σ with fr := σ.fr.set d (.one (.val .bool false)) } K else execA C o { σ with fr := σ.fr.set d (.one (.val .bool false)) } K s)
      | .tup [] => skipA o σ K
      | _ => s
    | none => s

/-- A region's operations as they are listed; in a region whose order is drawn ('ms': what is bound to come before each): any two that nothing binds must let each other be; 'q': no operation changes a block. -/
def denOps (C : Ctx) {R : Type} (ops : Array Oper) (ms : Option (Bool × List Nat)) (q : Bool) : List Oper → Nat → Tr → St → (St → R) → R → R
  | [], _, _, σ, K, _ => K σ
  | o :: r, j, tr, σ, K, s => oneA C ops o σ (fun f σ' => gate (!q || f.isStill) (match ms with
      | none => denOps C ops ms q r (j + 1) tr σ' K s
      | some m => gate (fitsTr m.1 ops (m.2.getD j 0) o f tr) (denOps C ops ms q r (j + 1) ((j, o, f) :: tr) σ' K s) s) s) s

def clearFr : Fr → List Oper → Fr
  | fr, [] => fr
  | fr, o :: r => clearFr (putT fr o.dst (.one .undef)) r

/-- what stands for the order of a region's operations -/
def orderOf (draw : Bool) (ops : Array Oper) (b : Bool) (ms : List Nat) : Option (Option (Bool × List Nat)) :=
  if draw = true then (if masksOK ms 0 ops.toList && Region.noSelect ops then some (some (b, ms)) else none) else some none

def boolAt (fr : Fr) (d : Nat) : Option Bool :=
  match rdT fr d with
  | .one (.val .bool b) => some b
  | _ => none

/-- blocks that are the call's own no more -/
def dropAll : Hp → List Nat → Hp
  | hp, [] => hp
  | hp, n :: r => dropAll (hrem hp n) r

/-! ### code -/
def joinK {R : Type} (T : Tmpl) (ok : Bool) (base : Fr) (o : Option T.ty.den) (K : Ex → St → R) (s : R) : R :=
  gate ok (bindO o (fun v => K .normal (T.unpack base v)) s) s

def denC (C : Ctx) : Code → HT → {R : Type} → St → (Ex → St → R) → R → R
  | .skip, _, _, σ, K, _ => K .normal σ
  | .region _ ops draw, .test d ms, _, σ, K, s => match orderOf draw ops false ms with
    | some od => bindO (denOps C ops od true ops.toList 0 [] σ (fun σ' => boolAt σ'.fr d) none) (fun b => K .normal { σ with fr := (clearFr σ.fr ops.toList).set d (.one (.val .bool b)) }) s
    | none => s
  | .region _ ops draw, .draw ms, _, σ, K, s => match orderOf draw ops false ms with
    | some od => denOps C ops od false ops.toList 0 [] σ (K .normal) s
    | none => s
  | .region _ ops draw, .pair ms, _, σ, K, s => match orderOf draw ops true ms with
    | some od => denOps C ops od false ops.toList 0 [] σ (K .normal) s
    | none => s
  | .region _ ops false, _, _, σ, K, s => denOps C ops none false ops.toList 0 [] σ (K .normal) s
  | .seq a b, .join T keep h, _, σ, K, s =>
    joinK T (!writes keep a && !writes keep b) (keepFr keep σ.fr) (denC C a h.l σ (fun e σ' => match e with
      | .normal => denC C b h.r σ' (fun e σ' => match e with | .normal => T.pack C.lo σ' | _ => none) none
      | _ => none) none) K s
  | .seq a b, h, _, σ, K, s => denC C a h.l σ (fun e σ' => match e with
      | .normal => denC C b h.r σ' K s
      | .exit n => K (.exit n) σ'
      | .ret => K .ret σ') s
  | .cond c a b, .join T keep h, _, σ, K, s => match rdC σ.fr c with
    | .val .bool t => joinK T (!writes keep a && !writes keep b) (keepFr keep σ.fr) (if t = true then denC C a h.l σ (fun e σ' => match e with | .normal => T.pack C.lo σ' | _ => none) none
        else denC C b h.r σ (fun e σ' => match e with | .normal => T.pack C.lo σ' | _ => none) none) K s
    | _ => s
  | .cond c a b, h, _, σ, K, s => match rdC σ.fr c with
    | .val .bool t => if t = true then denC C a h.l σ K s else denC C b h.r σ K s
    | _ => s
  | .block id a, .join T keep h, _, σ, K, s =>
    joinK T (!writes keep a) (keepFr keep σ.fr) (denC C a h.l σ (fun e σ' => match e with
      | .normal => T.pack C.lo σ'
      | .exit n => if n = id then T.pack C.lo σ' else none
      | .ret => none) none) K s
  | .block id a, h, _, σ, K, s => denC C a h.l σ (fun e σ' => match e with
      | .normal => K .normal σ'
      | .exit n => if n = id then K .normal σ' else K (.exit n) σ'
      | .ret => K .ret σ') s
  | .loop b, .loop id _, _, σ, K, s => match C.Λ id with
    | some L => match L.keep.packK σ, L.T.pack C.lo σ with
      | some c, some v => if writes L.keep.slots b = true then s else L.run K s c v
      | _, _ => s
    | none => s
  | .rangeFunc g ps a b, .rng id _, _, σ, K, s => match C.Γ id, rdC σ.fr g with
    | some L, .fn f caps => bindO (L.get (hget σ.hp) f caps) (fun xs => match L.keep.packK { σ with hp := dropAll σ.hp (caps.map (·.1)) }, L.T.pack C.lo { σ with hp := dropAll σ.hp (caps.map (·.1)) } with
        | some c, some v => if (writes L.slots a || (writes L.slots b || (ps.toList.any fun p => L.slots.contains p))) = true then s else L.run K s c xs v
        | _, _ => s) s
    | _, _ => s
  | .exit n, _, _, σ, K, _ => K (.exit n) σ
  | .ret, _, _, σ, K, _ => K .ret σ
  | _, _, _, _, _, s => s

def findT : List (Nat × Tmpl) → Nat → Option Tmpl
  | [], _ => none
  | (a, T) :: r, n => if a = n then some T else findT r n

/-- what a loop's round hands on -/
def roundK {R : Type} (lo : Nat) (T : Tmpl) (exits : List (Nat × Tmpl)) (rets : Option Tmpl) (K : Ex → St → R) (s : R) (base : Fr) (again : T.ty.den → R) (e : Ex) (σ : St) : R :=
  match e with
  | .normal => match T.pack lo σ with
    | some v => again v
    | none => s
  | .exit n => match findT exits n with
    | some Tx => match Tx.pack lo σ with
      | some v => K (.exit n) (Tx.unpack base v)
      | none => s
    | none => s
  | .ret => match rets with
    | some Tx => match Tx.pack lo σ with
      | some v => K .ret (Tx.unpack base v)
      | none => s
    | none => s

def roundC (C : Ctx) (b : Code) (h : HT) (T : Tmpl) (exits : List (Nat × Tmpl)) (rets : Option Tmpl) {R : Type} (K : Ex → St → R) (s : R) (base : Fr) (again : T.ty.den → R) (v : T.ty.den) : R :=
  denC C b h (T.unpack base v) (roundK C.lo T exits rets K s base again) s

def loopC (C : Ctx) (b : Code) (h : HT) (T : Tmpl) (exits : List (Nat × Tmpl)) (rets : Option Tmpl) {R : Type} (K : Ex → St → R) (s : R) (base : Fr) : Nat → T.ty.den → R :=
  iter (roundC C b h T exits rets K s base) s

/-- the arguments of yield in the loop's parameters -/
def setPs (fr : Fr) (ps : List Tmp) (vs : List AVal) : Fr := (ps.zip vs).foldl (fun fr p => fr.set p.1 p.2) fr

/-- the values of a chain of data, a value each -/
def valsOf : List (Bool × Nat) → List Cell → List AVal
  | [], _ => []
  | (agg, n) :: r, cs => mkV agg (cs.take n) :: valsOf r (cs.drop n)

/-- A round of a range over a function. -/
def roundR (C : Ctx) (a b : Code) (h : HT) (ps : List Tmp) (L : RngSum) {R : Type} (K : Ex → St → R) (s : R) (base : Fr) (x : L.te.den) (again : L.T.ty.den → R) (v : L.T.ty.den) : R :=
  denC C a h.l { L.T.unpack base v with fr := setPs (L.T.unpack base v).fr ps (valsOf L.parts (flat L.te x)) } (fun e σ => match e with
    | .normal => denC C b h.r σ (roundK C.lo L.T L.exits L.rets K s base again) s
    | _ => s) s

def rngC (C : Ctx) (a b : Code) (h : HT) (ps : List Tmp) (L : RngSum) {R : Type} (K : Ex → St → R) (s : R) (base : Fr) : List L.te.den → L.T.ty.den → R :=
  foldR (fun x again v => roundR C a b h ps L K s base x again v) (fun v => K .normal (L.T.unpack base v))

/-- a part of a code -/
def at_ : Code → List Bool → Code
  | c, [] => c
  | .seq a _, false :: p => at_ a p
  | .seq _ b, true :: p => at_ b p
  | .cond _ a _, false :: p => at_ a p
  | .cond _ _ b, true :: p => at_ b p
  | .block _ a, _ :: p => at_ a p
  | .loop a, _ :: p => at_ a p
  | .rangeFunc _ _ a _, false :: p => at_ a p
  | .rangeFunc _ _ _ b, true :: p => at_ b p
  | c, _ => c

/-! ### functions -/
def initFr (ntmps : Nat) (args : List AVal) : Fr := args ++ List.replicate (ntmps - args.length) (.one .undef)

/-- The arguments of a function of pure data, a value each. -/
def argVs : List (Bool × Nat) → List Cell → List AVal
  | [], _ => []
  | (agg, n) :: r, cs => mkV agg (cs.take n) :: argVs r (cs.drop n)

def resCells (hp : Hp) (fr : Fr) (E : Env) : List ResultVar → Option (List (Bool × List Cell))
  | [] => some []
  | .tmp t :: r => match rdT fr t, resCells hp fr E r with
    | .one c, some l => some ((false, [c]) :: l)
    | .pure ty x, some l => some ((true, flat ty x) :: l)
    | .agg cs, some l => some ((true, cs) :: l)
    | _, _ => none
  | .cell a t :: r => match rdT fr a, resCells hp fr E r with
    | .one (.ptr n off), some l => match hget hp n with
      | some (.var cs) => match span cs off (E.P.cellsOf t) with
        | some c => if wf1 E.P t then some ((aggT E.P t, c) :: l) else none
        | none => none
      | _ => none
    | _, _ => none

def mkTup : List (Bool × List Cell) → AVal
  | [(agg, cs)] => mkV agg cs
  | ps => .tup ps

/-- Cells that are to be new blocks of their own are so. -/
def ownOK (own : List Nat) : Nat → List Cell → Bool
  | _, [] => true
  | k, c :: r => (if own.contains k then (match c with | .own _ _ => true | .sub _ _ _ _ => true | .clp _ _ _ _ => true | .nilS => true | _ => false) else true) && ownOK own (k + 1) r

def finish (E : Env) (rs : List ResultVar) (T : TFun) (σ : St) : Option T.res.den :=
  match resCells σ.hp σ.fr E rs with
  | some l =>
    let cs := l.flatMap (·.2)
    if ownOK T.own 0 cs && nodupB (cs.flatMap ownOf) && decide (l.map (fun p => (p.1, p.2.length)) = T.parts) then parseAll (hget σ.hp) T.res cs else none
  | none => none

/-- A function whose arguments and results are pure data: what it comes to. -/
def denFun (C : Ctx) (fn : Func) (h : HT) (T : TFun) (a : T.arg.den) : Option T.res.den :=
  match fn.body with
  | some c => denC C c h { fr := initFr fn.ntmps (argVs T.args (flat T.arg a)), hp := [], nx := 0 }
      (fun e σ => match e with | .exit _ => none | _ => finish C.E fn.results.toList T σ) none
  | none => none

/-- The same from values of a finer make. -/
def denArgs (C : Ctx) (fn : Func) (h : HT) (T : TFun) (avs : List AVal) : Option T.res.den :=
  match fn.body with
  | some c => denC C c h { fr := initFr fn.ntmps avs, hp := [], nx := 0 }
      (fun e σ => match e with | .exit _ => none | _ => finish C.E fn.results.toList T σ) none
  | none => none

/-- A method, its struct's content in and out. -/
def finishM (E : Env) (rs : List ResultVar) (M : MFun) (σ : St) : Option (M.res.den × M.cont.den) :=
  match resCells σ.hp σ.fr E rs, hget σ.hp 0 with
  | some l, some (.var ds) =>
    let cs := l.flatMap (·.2)
    if ownOK M.own 0 cs && nodupB (cs.flatMap ownOf) && decide (l.map (fun p => (p.1, p.2.length)) = M.parts) && (ds.flatMap namesOfCell).isEmpty && !(cs.flatMap ownOf).contains 0 then
      (match parseAll (hget σ.hp) M.res cs, parseAll (hget σ.hp) M.cont ds with
        | some r, some y => some (r, y)
        | _, _ => none) else none
  | _, _ => none

def denM (C : Ctx) (fn : Func) (h : HT) (M : MFun) (a : M.cont.den × M.arg.den) : Option (M.res.den × M.cont.den) :=
  match fn.body with
  | some c => denC C c h { fr := initFr fn.ntmps (.one (.ptr 0 0) :: argVs M.args (flat M.arg a.2)), hp := [(0, .var (flat M.cont a.1))], nx := 1 }
      (fun e σ => match e with | .exit _ => none | _ => finishM C.E fn.results.toList M σ) none
  | none => none

/-- A function that is run in its caller's state. -/
def inl (C : Ctx) (fn : Func) (h : HT) : InlSum where
  run := fun {R} args hp nx K s => match fn.body with
    | some c => gate (decide (nx ≤ C.lo)) (denC C c h { fr := initFr fn.ntmps args, hp, nx }
        (fun e σ => match e with
          | .exit _ => s
          | _ => match resCells σ.hp σ.fr C.E fn.results.toList with
            | some l => K (mkTup l) σ.hp σ.nx
            | none => s) s) s
    | none => s

end Go.Ab
