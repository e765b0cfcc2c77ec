/-
  THE ABSTRACT EVALUATOR: one operation, calls of Go functions aside: the test under which Go goes on, the value, what becomes of the call's own blocks.
-/
import Derived.Test.YtnklmlnkiepdiaaGreatDoorAbDefs
set_option linter.unusedVariables false
namespace Go.Ab

structure Env where
  P : Program
  ty : TypeId → Option Ty

structure Out where
  test : Bool
  v : AVal
  frz : List Nat := []
  acts : List HAct := []
  made : Nat := 0

def aggT (P : Program) (t : TypeId) : Bool :=
  match P.underlying t with
  | some (.struct _) => true
  | some (.array _ _) => true
  | _ => false

def sliceElem (P : Program) (t : TypeId) : Option TypeId :=
  match P.underlying t with
  | some (.slice e) => some e
  | _ => none

def span (cs : List Cell) (off n : Nat) : Option (List Cell) :=
  if off + n ≤ cs.length then some ((cs.drop off).take n) else none

def splice (cs : List Cell) (off : Nat) (new : List Cell) : List Cell := cs.take off ++ new ++ cs.drop (off + new.length)

def pureIf (t t' : Option Ty) : Bool := match t, t' with
  | some a, some b => a.isAgg && decide (a = b)
  | _, _ => false

/-- a type whose values are one cell, or a struct -/
def wf1 (P : Program) (t : TypeId) : Bool := (aggT P t || decide (P.cellsOf t = 1)) && (P.underlying t).isSome

/-- What lies at an address: a value of type t. -/
def loadA (E : Env) (look : Nat → Option Blk) (t : TypeId) (a : Cell) : Option Out :=
  if !wf1 E.P t then none else match a with
  | .ptr n off => match look n with
    | some (.var cs) => (span cs off (E.P.cellsOf t)).map fun c => { test := true, v := mkV (aggT E.P t) c }
    | _ => none
  | .pptr t' x off =>
    if pureIf (E.ty t) (some t') && decide (off = 0) then some { test := true, v := .pure t' x }
    else (span (flat t' x) off (E.P.cellsOf t)).map fun c => { test := true, v := mkV (aggT E.P t) c }
  | .eptr n e i off => match arrAs e (look n) with
    | some xs =>
      if pureIf (E.ty t) (some e) && decide (off = 0) then some { test := inR i xs.length, v := .pure e (getI e.dflt xs i) }
      else (span (flat e (getI e.dflt xs i)) off (E.P.cellsOf t)).map fun c => { test := inR i xs.length, v := mkV (aggT E.P t) c }
    | none => none
  | _ => none

def owns (cs : List Cell) : List Nat := (cs.flatMap ownOf).eraseDups

def storeA (E : Env) (look : Nat → Option Blk) (t : TypeId) (a : Cell) (v : AVal) : Option Out :=
  let new := cellsOf v
  if new.length = E.P.cellsOf t && known v && (E.P.underlying t).isSome && noSelf new then
    match a with
    | .ptr n off => match look n with
      | some (.var cs) => if off + new.length ≤ cs.length then some { test := true, v := .one .undef, acts := [.put n (.var (splice cs off new))] } else none
      | _ => none
    | .eptr n e i off => match arrAs e (look n) with
      | some xs =>
        match parseAll look e (splice (flat e (getI e.dflt xs i)) off new) with
        | some x => if off + new.length ≤ e.size && !(owns new).contains n then some { test := inR i xs.length, v := .one .undef, frz := owns new, acts := [.put n (.arr e (xs.set i.toNat x))] } else none
        | none => none
      | none => none
    | _ => none
  else none

def ptrOff (c : Cell) (k : Nat) : Option Cell :=
  match c with
  | .ptr n off => some (.ptr n (off + k))
  | .pptr t x off => some (.pptr t x (off + k))
  | .eptr n e i off => some (.eptr n e i (off + k))
  | _ => none

def fieldA (E : Env) (s : TypeId) (x : Cell) (f : Nat) : Option Out :=
  match E.P.underlying s with
  | some (.struct fields) => match fields[f]? with
    | some fd => if E.P.cellsOf fd.type = 0 then none else (ptrOff x fd.offset).map fun c => { test := true, v := .one c }
    | none => none
  | _ => none

def isStruct : AVal → Bool
  | .one _ => false
  | .tup _ => false
  | _ => true

def fieldV (E : Env) (s : TypeId) (x : AVal) (f : Nat) : Option Out :=
  match E.P.underlying s with
  | some (.struct fields) => match fields[f]? with
    | some fd => if isStruct x && wf1 E.P fd.type then
        (span (cellsOf x) fd.offset (E.P.cellsOf fd.type)).map fun c => { test := true, v := mkV (aggT E.P fd.type) c } else none
    | none => none
  | _ => none

def fits (P : Program) (e : Ty) (el : TypeId) : Bool := decide (e.size = P.cellsOf el ∧ 0 < e.size)

def indexAddrA (E : Env) (look : Nat → Option Blk) (t : TypeId) (x : Cell) (i : Int) : Option Out :=
  match E.P.underlying t with
  | some (.slice el) => match x with
    | .val (.slice e) xs => if fits E.P e el then some { test := inR i xs.length, v := .one (.pptr e (getI e.dflt xs i) 0) } else none
    | .own n e => match arrAs e (look n) with
      | some xs => if fits E.P e el then some { test := inR i xs.length, v := .one (.eptr n e i 0) } else none
      | none => none
    | .sub n e lo hi => match arrAs e (look n) with
      | some xs => if fits E.P e el then some { test := inR i (hi - lo), v := .one (.eptr n e (lo + i) 0) } else none
      | none => none
    | _ => none
  | some (.array len el) => if 2 ≤ len ∧ 0 < E.P.cellsOf el then (ptrOff x (i.toNat * E.P.cellsOf el)).map fun c => { test := inR i len, v := .one c } else none
  | _ => none

def indexA (E : Env) (t : TypeId) (x : AVal) (i : Int) : Option Out :=
  match E.P.underlying t, x with
  | some .string, .one (.val .str s) => some { test := inR i s.length, v := .one (.val (.int .u8) (getI (0 : Int) s i)) }
  | some (.array len el), x => if isStruct x && wf1 E.P el then (span (cellsOf x) (i.toNat * E.P.cellsOf el) (E.P.cellsOf el)).map fun c => { test := inR i len, v := mkV (aggT E.P el) c } else none
  | _, _ => none

def lenOfCell (look : Nat → Option Blk) (slice : Bool) : Cell → Option Int
  | .val (.slice _) xs => if slice then some xs.length else none
  | .val .str s => if slice then none else some s.length
  | .clip _ xs => if slice then some xs.length else none
  | .nq _ _ xs => if slice then some xs.length else none
  | .nilS => if slice then some 0 else none
  | .own n e => if slice then (arrAs e (look n)).map fun xs => (xs.length : Int) else none
  | .sub n e lo hi => if slice then (arrAs e (look n)).map fun _ => hi - lo else none
  | .clp n e lo hi => if slice then (arrAs e (look n)).map fun _ => hi - lo else none
  | _ => none

def lenA (E : Env) (look : Nat → Option Blk) (t : TypeId) (c : Cell) : Option Int :=
  match E.P.underlying t with
  | some (.slice _) => lenOfCell look true c
  | some .string => lenOfCell look false c
  | _ => none

def intAt (fr : Fr) (x : Operand) : Option Int :=
  match rdC fr x with
  | .val (.int _) n => some n
  | _ => none

/-- A bound of a slice expression, or what stands for it. -/
def bound (fr : Fr) (x : Option Operand) (d : Int) : Option Int :=
  match x with
  | none => some d
  | some x => intAt fr x

def bounds (n l h : Int) : Bool := decide (0 ≤ l ∧ l ≤ h ∧ h ≤ n)

def sliceA (E : Env) (look : Nat → Option Blk) (fr : Fr) (t : TypeId) (x : Cell) (lo hi mx : Option Operand) : Option Out :=
  match E.P.underlying t with
  | some .string => match x, mx with
    | .val .str s, none => match bound fr lo 0, bound fr hi s.length with
      | some l, some h => some { test := bounds s.length l h, v := .one (.val .str (cut s l h)) }
      | _, _ => none
    | _, _ => none
  | some (.slice el) => match mx with
    | none => match x with
      | .val (.slice e) xs => if fits E.P e el then match bound fr lo 0, bound fr hi xs.length with
        | some l, some h => some { test := bounds xs.length l h, v := .one (.val (.slice e) (cut xs l h)) }
        | _, _ => none else none
      | .own n e => match arrAs e (look n) with
        | some xs => if fits E.P e el then match bound fr lo 0, bound fr hi xs.length with
          | some l, some h => some { test := bounds xs.length l h, v := .one (.sub n e l h) }
          | _, _ => none else none
        | none => none
      | .sub n e lo' hi' => match arrAs e (look n) with
        | some xs => if fits E.P e el then match bound fr lo 0, bound fr hi (hi' - lo') with
          | some l, some h => some { test := bounds (hi' - lo') l h, v := .one (.sub n e (lo' + l) (lo' + h)) }
          | _, _ => none else none
        | none => none
      | .nilS => if 0 < E.P.cellsOf el then match bound fr lo 0, bound fr hi 0 with
        | some l, some h => some { test := bounds 0 l h, v := .one .nilS }
        | _, _ => none else none
      | _ => none
    | some m => if hi.isNone then none else match x with
      | .val (.slice e) xs => if fits E.P e el then match bound fr lo 0, bound fr hi xs.length, intAt fr m with
        | some l, some h, some m => some { test := bounds xs.length l h && decide (m = h), v := .one (.clip e (cut xs l h)) }
        | _, _, _ => none else none
      | .own n e => match arrAs e (look n) with
        | some xs => if fits E.P e el then match bound fr lo 0, bound fr hi xs.length, intAt fr m with
          | some l, some h, some m => some { test := bounds xs.length l h && decide (m = h), v := .one (.clp n e l h) }
          | _, _, _ => none else none
        | none => none
      | .nilS => if 0 < E.P.cellsOf el then match bound fr lo 0, bound fr hi 0, intAt fr m with
        | some l, some h, some m => some { test := bounds 0 l h && decide (m = h), v := .one .nilS }
        | _, _, _ => none else none
      | _ => none
  | _ => none

/-- What is appended or copied from. -/
def srcAs (look : Nat → Option Blk) (e : Ty) (y : Cell) : Option (List e.den) :=
  match y with
  | .val .str s => asTy (.slice e) (.slice (.int .u8)) s
  | y => cellAs look (.slice e) y

def roomFor (n bytes : Nat) : Bool := decide (n * bytes ≤ ROOM ∧ n ≤ ROOM)

def appendA (E : Env) (look : Nat → Option Blk) (nx : Nat) (t : TypeId) (x y : Cell) : Option Out :=
  match sliceElem E.P t with
  | some el => match E.ty el with
    | some e => match srcAs look e y with
      | some ys =>
        let b := E.P.bytesOf el
        match x with
        | .nilS => some { test := roomFor ys.length b, v := .one (.own nx e), acts := [.put nx (.arr e ys)], made := 1 }
        | .own n e' => if e' = e then (arrAs e (look n)).map fun xs => { test := roomFor (xs.length + ys.length) b, v := .one (.own nx e), acts := [.rem n, .put nx (.arr e (xs ++ ys))], made := 1 } else none
        | .sub n e' lo hi => if e' = e then (arrAs e (look n)).map fun xs => { test := roomFor ((cut xs lo hi).length + ys.length) b, v := .one (.own nx e), acts := [.rem n, .put nx (.arr e (cut xs lo hi ++ ys))], made := 1 } else none
        | .clp n e' lo hi => if e' = e then (arrAs e (look n)).map fun xs => { test := roomFor ((cut xs lo hi).length + ys.length) b && decide (0 < ys.length), v := .one (.own nx e), acts := [.put nx (.arr e (cut xs lo hi ++ ys))], made := 1 } else none
        | .clip e' xs => (asTy (.slice e) (.slice e') xs).map fun (xs : List e.den) =>
            { test := roomFor (xs.length + ys.length) b && decide (0 < ys.length), v := .one (.own nx e), acts := [.put nx (.arr e (xs ++ ys))], made := 1 }
        | _ => none
      | none => none
    | none => none
  | none => none

def over {α : Type} (xs ys : List α) (lo k : Nat) : List α := xs.take lo ++ ys.take k ++ xs.drop (lo + k)

def copyA (E : Env) (look : Nat → Option Blk) (t : TypeId) (x y : Cell) : Option Out :=
  match sliceElem E.P t with
  | some el => match E.ty el with
    | some e => match srcAs look e y with
      | some ys => match x with
        | .own n e' => if e' = e then (arrAs e (look n)).map fun xs =>
            let k := min ys.length xs.length
            { test := true, v := .one (.val (.int .i64) (k : Int)), acts := [.put n (.arr e (over xs ys 0 k))] } else none
        | .sub n e' lo hi => if e' = e then (arrAs e (look n)).map fun xs =>
            let k := min ys.length (hi - lo).toNat
            { test := true, v := .one (.val (.int .i64) (k : Int)), acts := [.put n (.arr e (over xs ys lo.toNat k))] } else none
        | _ => none
      | none => none
    | none => none
  | none => none

/-- clear of a slice of the call's own -/
def clearA (E : Env) (look : Nat → Option Blk) (t : TypeId) (x : Cell) : Option Out :=
  match sliceElem E.P t with
  | some el => match E.ty el with
    | some e => match x with
      | .own n e' => if e' = e ∧ 0 < e.size then (arrAs e (look n)).map fun xs => { test := true, v := .one .undef, acts := [.put n (.arr e (over xs (List.replicate xs.length e.dflt) 0 xs.length))] } else none
      | .sub n e' lo hi => if e' = e ∧ 0 < e.size then (arrAs e (look n)).map fun xs =>
          let k := (hi - lo).toNat
          { test := true, v := .one .undef, acts := [.put n (.arr e (over xs (List.replicate k e.dflt) lo.toNat k))] } else none
      | .nilS => some { test := true, v := .one .undef }
      | _ => none
    | none => none
  | none => none

def makeA (E : Env) (nx : Nat) (t : TypeId) (l c : Int) : Option Out :=
  match sliceElem E.P t with
  | some el => match E.ty el with
    | some e => if 0 < e.size then some { test := decide (0 ≤ l ∧ l ≤ c) && roomFor c.toNat (E.P.bytesOf el), v := .one (.own nx e), acts := [.put nx (.arr e (List.replicate l.toNat e.dflt))], made := 1 } else none
    | none => none
  | none => none

def elemsA (look : Nat → Option Blk) (fr : Fr) (e : Ty) : Nat → List (Nat × Operand) → Option (List e.den)
  | _, [] => some []
  | k, (i, x) :: r => if i = k then
      match reify look e (rd fr x), elemsA look fr e (k + 1) r with
      | some y, some ys => some (y :: ys)
      | _, _ => none
    else none

def buildSliceA (E : Env) (look : Nat → Option Blk) (fr : Fr) (nx : Nat) (t : TypeId) (len : Nat) (parts : List (Nat × Operand)) : Option Out :=
  match sliceElem E.P t with
  | some el => match E.ty el with
    | some e => match elemsA look fr e 0 parts with
      | some xs => if parts.length = len && decide (e.size = E.P.cellsOf el ∧ 0 < e.size ∧ len * e.size ≤ 16777216) then
          some { test := true, v := .one (.own nx e), frz := owns (parts.flatMap fun p => cellsOf (rd fr p.2)), acts := [.put nx (.arr e xs)], made := 1 } else none
      | none => none
    | none => none
  | none => none

def buildParts (place : Nat → Option (Nat × Nat)) (fr : Fr) : List Cell → List (Nat × Operand) → Option (List Cell)
  | cs, [] => some cs
  | cs, (i, x) :: r => match place i with
    | some (off, size) =>
      let new := cellsOf (rd fr x)
      if known (rd fr x) && decide (new.length = size ∧ off + size ≤ cs.length) then buildParts place fr (splice cs off new) r else none
    | none => none

def placesOf (P : Program) (fs : List Field) : Option (List (Nat × Nat)) := fs.mapM fun f => (P.info? f.type).map fun i => (f.offset, i.size)

def buildA (E : Env) (fr : Fr) (t : TypeId) (parts : List (Nat × Operand)) : Option Out :=
  match E.P.underlying t, E.ty t with
  | some (.struct fields), some ty => match placesOf E.P fields.toList with
    | some ps => (buildParts (fun i => ps[i]?) fr (zeros ty) parts).map fun cs => { test := true, v := .agg cs }
    | none => none
  | some (.array len el), some ty => match E.P.info? el with
    | some i => (buildParts (fun j => some (j * i.size, i.size)) fr (zeros ty) parts).map fun cs => { test := true, v := .agg cs }
    | none => none
  | _, _ => none

def convertA (E : Env) (look : Nat → Option Blk) (nx : Nat) (src dst : TypeId) (x : Cell) : Option Out :=
  match E.P.underlying src, E.P.underlying dst, x with
  | some _, some (.int k), .val (.int _) n => some { test := true, v := .one (.val (.int k) (k.wrap n)) }
  | some (.int _), some .string, .val (.int _) n => some { test := decide (0 ≤ n ∧ n < 128), v := .one (.val .str [n]) }
  | some _, some .string, .val .str s => some { test := true, v := .one (.val .str s) }
  | some (.slice e), some .string, x => match E.P.underlying e with
    | some (.int .u8) => (cellAs look (.slice (.int .u8)) x).map fun s => { test := true, v := .one (.val .str s) }
    | _ => none
  | some .string, some (.slice e), .val .str s => match E.P.underlying e with
    | some (.int .u8) => if E.ty e = some (.int .u8) then some { test := roomFor s.length 1, v := .one (.own nx (.int .u8)), acts := [.put nx (.arr (.int .u8) s)], made := 1 } else none
    | _ => none
  | _, _, _ => none

def foldInts (f : Int → Int → Int) (k : IntKind) : Int → List Cell → Option Int
  | a, [] => some a
  | a, .val (.int k') b :: r => if k' = k then foldInts f k (f a b) r else none
  | _, _ => none

/-- slices and texts -/
def seqT (P : Program) (t : TypeId) : Bool :=
  match P.underlying t with
  | some (.slice _) => true
  | some .string => true
  | _ => false

def minI (a b : Int) : Int := if b < a then b else a
def maxI (a b : Int) : Int := if b > a then b else a

/-- append(nil, make([]T, n)...) -/
def growA (E : Env) (nx : Nat) (t : TypeId) (x y : Cell) : Option Out :=
  match sliceElem E.P t with
  | some el => match E.ty el, x, y with
    | some e, .nilS, .val (.int .i64) n => if 0 < e.size then some { test := decide (0 < n) && roomFor n.toNat (E.P.bytesOf el), v := .one (.own nx e), acts := [.put nx (.arr e (List.replicate n.toNat e.dflt))], made := 1 } else none
    | _, _, _ => none
  | none => none

/-- an i64 -/
def i64T (P : Program) (t : TypeId) : Bool :=
  match P.underlying t with
  | some (.int .i64) => true
  | _ => false

/-- What a map holds. -/
def mapOfA (look : Nat → Option Blk) (k v : Ty) : Cell → Option (List (k.den × v.den))
  | .mp n k' v' => if k' = k ∧ v' = v then mapAs k v (look n) else none
  | .val t x => asTy (.map k v) t x
  | _ => none

/-- the length of a map -/
def mapLenA (E : Env) (look : Nat → Option Blk) (t : TypeId) (c : Cell) : Option Out :=
  match E.P.underlying t, E.ty t with
  | some (.map _ _), some (.map k v) => (mapOfA look k v c).map fun es => { test := decide (es.length ≤ MAXL), v := .one (.val (.int .i64) (es.length : Int)) }
  | _, _ => none

def mapT (P : Program) (t : TypeId) : Bool :=
  match P.underlying t with
  | some (.map _ _) => true
  | _ => false

def builtinA (E : Env) (look : Nat → Option Blk) (fr : Fr) (nx : Nat) (b : Builtin) (args : List Operand) (ats : List TypeId) : Option Out :=
  match b, args, ats with
  | .len, [x], t :: _ => if mapT E.P t then mapLenA E look t (rdC fr x) else (lenA E look t (rdC fr x)).map fun n => { test := true, v := .one (.val (.int .i64) n) }
  | .append, [x, y], t :: u :: _ => if seqT E.P u then appendA E look nx t (rdC fr x) (rdC fr y) else if i64T E.P u then growA E nx t (rdC fr x) (rdC fr y) else none
  | .cap, [x], t :: _ => match sliceElem E.P t, rdC fr x with
    | some _, .nilS => some { test := true, v := .one (.val (.int .i64) 0) }
    | _, _ => none
  | .copy, [x, y], t :: _ => copyA E look t (rdC fr x) (rdC fr y)
  | .clear, [x], t :: _ => clearA E look t (rdC fr x)
  | .min, x :: r, _ => match rdC fr x with
    | .val (.int k) a => (foldInts minI k a (r.map (rdC fr))).map fun n => { test := true, v := .one (.val (.int k) n) }
    | _ => none
  | .max, x :: r, _ => match rdC fr x with
    | .val (.int k) a => (foldInts maxI k a (r.map (rdC fr))).map fun n => { test := true, v := .one (.val (.int k) n) }
    | _ => none
  | _, _, _ => none

/-- a key's kind -/
def keyD (P : Program) (t : TypeId) (k : Ty) : Bool :=
  match P.underlying t, k with
  | some (.int q), .int q' => decide (q = q')
  | some .bool, .bool => true
  | some .string, .str => true
  | _, _ => false

/-- the zero value is a struct, or of one cell -/
def zeroMade (P : Program) (t : TypeId) (agg : Bool) : Bool :=
  match (P.info? t).bind (·.zero) with
  | some (.agg _) => agg
  | some z => !agg && z.oneCell'
  | none => false

def optInt (fr : Fr) : Option Operand → Bool
  | none => true
  | some x => (intAt fr x).isSome

def makeMapA (E : Env) (fr : Fr) (nx : Nat) (t : TypeId) (r : Option Operand) : Option Out :=
  match E.P.underlying t, E.ty t with
  | some (.map _ _), some (.map k v) => if keyTy k && optInt fr r then
      some { test := true, v := .one (.mp nx k v), acts := [.put nx (.map k v [])], made := 1 } else none
  | _, _ => none

def lookupA (E : Env) (look : Nat → Option Blk) (t : TypeId) (x i : Cell) (ok : Bool) : Option Out :=
  match E.P.underlying t, E.ty t with
  | some (.map kt vt), some (.map k v) => if keyD E.P kt k && zeroMade E.P vt v.isAgg && decide (E.ty vt = some v) then
      match mapOfA look k v x, cellAs look k i with
      | some es, some a =>
        let r := mapGet es a
        let y := r.getD v.dflt
        some { test := true, v := if ok then .tup [(v.isAgg, flat v y), (false, [.val .bool r.isSome])] else valA v y }
      | _, _ => none
    else none
  | _, _ => none

def mapUpdateA (E : Env) (look : Nat → Option Blk) (t : TypeId) (m i : Cell) (x : AVal) : Option Out :=
  match m with
  | .mp n k' v' => match E.P.underlying t, E.ty t with
    | some (.map kt vt), some (.map k v) => if keyD E.P kt k && (isStruct x == v.isAgg) && known x && decide (k' = k ∧ v' = v) then
        match mapAs k' v' (look n), cellAs look k' i, reify look v' x with
        | some es, some a, some y => if !(owns (cellsOf x)).contains n then
            some { test := true, v := .one .undef, frz := owns (cellsOf x), acts := [.put n (.map k' v' (mapPut es a y))] } else none
        | _, _, _ => none
      else none
    | _, _ => none
  | _ => none

def capsA (fr : Fr) : List Operand → Option (List (Nat × Nat))
  | [] => some []
  | x :: r => match rdC fr x, capsA fr r with
    | .ptr n off, some l => some ((n, off) :: l)
    | _, _ => none

def cell (c : Cell) : Option Out := some { test := true, v := .one c }

/-- a slice against nil -/
def nilOp (P : Program) (t : TypeId) (op : BinOp) (x y : Cell) : Option Bool :=
  match x, y with
  | .nq b _ _, .nilS => match P.underlying t, op with
    | some (.slice _), .eql => some b
    | some (.slice _), .neq => some (!b)
    | _, _ => none
  | _, _ => none

/-- an interface value against the literal nil -/
def ifcOp (P : Program) (t : TypeId) (op : BinOp) (x : Cell) (y : Operand) : Option Bool :=
  match x, y with
  | .ifc b, .const .nilIface => match P.underlying t, op with
    | some (.interface _), .eql => some b
    | some (.interface _), .neq => some (!b)
    | _, _ => none
  | _, _ => none

def boolT (P : Program) (t : TypeId) : Bool :=
  match P.underlying t with
  | some .bool => true
  | _ => false

/-- a struct of a pointer and a slice, such as strings.Builder: both are nil at first -/
def bldT (P : Program) (t : TypeId) : Bool :=
  match (P.info? t).bind (·.zero) with
  | some (.agg cs) => match cs.toList with
    | [.pointer none, .slice none 0 0] => true
    | _ => false
  | _ => false

/-! ### structs of plain fields, compared -/
def eqC : Option TypeDesc → Cell → Cell → Option Bool
  | some (.int _), .val (.int k) a, .val (.int k') b => if k = k' then some (decide (a = b)) else none
  | some .bool, .val .bool a, .val .bool b => some (a == b)
  | some .string, .val .str a, .val .str b => some (decide (a = b))
  | _, _, _ => none
def eqFs (P : Program) : Nat → List Field → List Cell → List Cell → Option Bool
  | _, [], [], [] => some true
  | i, f :: r, c :: cs, d :: ds => if decide (f.name ≠ "_") && decide (f.offset = i) then match eqC (P.underlying f.type) c d, eqFs P (i + 1) r cs ds with
      | some b, some r => some (b && r)
      | _, _ => none
    else none
  | _, _, _, _ => none
def structOp (P : Program) (t : TypeId) (op : BinOp) (x y : AVal) : Option Bool :=
  if isStruct x && isStruct y then match P.underlying t with
    | some (.struct fs) => if !P.stoodInHeld t && !P.eqGuardType P.depth t then match eqFs P 0 fs.toList (cellsOf x) (cellsOf y), op with
        | some b, .eql => some b
        | some b, .neq => some (!b)
        | _, _ => none
      else none
    | _ => none
  else none

/-- One operation, calls of Go functions aside. -/
def stepA (E : Env) (look : Nat → Option Blk) (fr : Fr) (nx : Nat) (o : Op) : Option Out :=
  match o with
  | .move x => some { test := true, v := rd fr x }
  | .assign x => some { test := true, v := rd fr x }
  | .alloc t => if bldT E.P t then some { test := true, v := .one (.ptr nx 0), acts := [.put nx (.var [.self nx t, .nilS])], made := 1 } else match E.ty t with
    | some ty => if ty.size = E.P.cellsOf t then some { test := true, v := .one (.ptr nx 0), acts := [.put nx (.var (zeros ty))], made := 1 } else none
    | none => none
  | .box t x => if known (rd fr x) && noSelf (cellsOf (rd fr x)) then some { test := true, v := .one (.ptr nx 0), acts := [.put nx (.var (cellsOf (rd fr x)))], made := 1 } else none
  | .build t ps => buildA E fr t ps.toList
  | .buildSlice t n ps => buildSliceA E look fr nx t n ps.toList
  | .load t x => loadA E look t (rdC fr x)
  | .store t x v => storeA E look t (rdC fr x) (rd fr v)
  | .nilCheck x => match rdC fr x with
    | .ptr n off => cell (.ptr n off)
    | .pptr t x off => cell (.pptr t x off)
    | .eptr n e i off => cell (.eptr n e i off)
    | .fn f caps => cell (.fn f caps)
    | _ => none
  | .binOp op t x y _ => match nilOp E.P t op (rdC fr x) (rdC fr y) with
    | some b => cell (.val .bool b)
    | none => match ifcOp E.P t op (rdC fr x) y with
     | some b => cell (.val .bool b)
     | none => match structOp E.P t op (rd fr x) (rd fr y) with
      | some b => cell (.val .bool b)
      | none => (binOpA (boolT E.P t) op (rdC fr x) (rdC fr y)).map fun r => { test := r.1, v := .one r.2 }
  | .unOp op _ x => (unOpA op (rdC fr x)).map fun r => { test := true, v := .one r }
  | .convert s d x => convertA E look nx s d (rdC fr x)
  | .makeInterface t x => match E.P.underlying t with
    | some (.interface _) => none
    | some _ => some { test := true, v := .one .undef }
    | none => none
  | .makeFunc (.func f) first caps => if first.size = 0 then (capsA fr caps.toList).map fun l => { test := true, v := .one (.fn f l) } else none
  | .makeSlice t l c => match intAt fr l, intAt fr c with
    | some l, some c => makeA E nx t l c
    | _, _ => none
  | .slice t x lo hi mx => sliceA E look fr t (rdC fr x) lo hi mx
  | .fieldAddr s x f => fieldA E s (rdC fr x) f
  | .field s x f => fieldV E s (rd fr x) f
  | .indexAddr t x i => match intAt fr i with
    | some i => indexAddrA E look t (rdC fr x) i
    | none => none
  | .index t x i => match intAt fr i with
    | some i => indexA E t (rd fr x) i
    | none => none
  | .extract t i => match rd fr t with
    | .tup ps => match ps[i]? with
      | some (agg, cs) => some { test := true, v := mkV agg cs }
      | none => none
    | _ => none
  | .makeMap t r => makeMapA E fr nx t r
  | .lookup t x i ok => lookupA E look t (rdC fr x) (rdC fr i) ok
  | .mapUpdate t m i x => mapUpdateA E look t (rdC fr m) (rdC fr i) (rd fr x)
  | .insert t m i x => mapUpdateA E look t (rdC fr m) (rdC fr i) (rd fr x)
  | .call { callee := .builtin b, args, argTypes } => builtinA E look fr nx b args.toList argTypes.toList
  | _ => none

end Go.Ab
