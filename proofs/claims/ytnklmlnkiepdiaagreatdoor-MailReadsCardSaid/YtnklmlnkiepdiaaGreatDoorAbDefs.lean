/-
  THE ABSTRACT EVALUATOR: definitions. A program's code is run on typed pure values (whole numbers, bools, texts, lists, pairs) and on blocks of the call's own;
  it is written so that on a concrete code and a state of known shape it computes by definition alone.
-/
import Derived.Calls
import Derived.Orders
import Derived.Laws.Sem
set_option linter.unusedVariables false
namespace Go.Ab

/-- The kinds of pure data. -/
inductive Ty where
  | int (k : IntKind)
  | bool
  | str
  | slice (e : Ty)
  | unit
  | pair (a b : Ty)
  | map (k v : Ty)
  deriving DecidableEq

@[reducible] def Ty.den : Ty → Type
  | .int _ => Int
  | .bool => Bool
  | .str => List Int
  | .slice e => List e.den
  | .unit => Unit
  | .pair a b => a.den × b.den
  | .map k v => List (k.den × v.den)

/-- How many cells of memory a value takes. -/
def Ty.size : Ty → Nat
  | .unit => 0
  | .pair a b => a.size + b.size
  | _ => 1

def Ty.isAgg : Ty → Bool
  | .unit => true
  | .pair _ _ => true
  | _ => false

def Ty.dflt : (t : Ty) → t.den
  | .int _ => (0 : Int)
  | .bool => false
  | .str => []
  | .slice _ => []
  | .unit => ()
  | .pair a b => (a.dflt, b.dflt)
  | .map _ _ => []

/-- No slice within: such a value leads to no memory. -/
def Ty.flatOnly : Ty → Bool
  | .slice _ => false
  | .map _ _ => false
  | .pair a b => a.flatOnly && b.flatOnly
  | _ => true

inductive Cell where
  | undef
  | val (t : Ty) (x : t.den)
  | nilS
  | own (n : Nat) (e : Ty)
  | sub (n : Nat) (e : Ty) (lo hi : Int)
  | ptr (n : Nat) (off : Nat)
  | pptr (t : Ty) (x : t.den) (off : Nat)
  | eptr (n : Nat) (e : Ty) (i : Int) (off : Nat)
  | fn (f : Nat) (caps : List (Nat × Nat))
  | clip (e : Ty) (xs : List e.den)
  | mp (n : Nat) (k v : Ty)
  | nq (b : Bool) (e : Ty) (xs : List e.den)
  | clp (n : Nat) (e : Ty) (lo hi : Int)
  | self (n t : Nat)
  | ifc (b : Bool)

inductive AVal where
  | one (c : Cell)
  | pure (t : Ty) (x : t.den)
  | agg (cs : List Cell)
  | tup (ps : List (Bool × List Cell))

inductive Blk where
  | arr (e : Ty) (xs : List e.den)
  | var (cs : List Cell)
  | map (k v : Ty) (es : List (k.den × v.den))

inductive HAct where
  | put (n : Nat) (b : Blk)
  | rem (n : Nat)

abbrev Fr := List AVal
abbrev Hp := List (Nat × Blk)

structure St where
  fr : Fr
  hp : Hp
  nx : Nat

/-! ### small words -/
def getI {α : Type} (d : α) (xs : List α) (i : Int) : α := xs.getD i.toNat d
def inR (i n : Int) : Bool := decide (0 ≤ i ∧ i < n)

def flat : (t : Ty) → t.den → List Cell
  | .unit, _ => []
  | .pair a b, p => flat a p.1 ++ flat b p.2
  | .int k, n => [.val (.int k) n]
  | .bool, n => [.val .bool n]
  | .str, n => [.val .str n]
  | .slice e, n => [.val (.slice e) n]
  | .map k v, n => [.val (.map k v) n]

def zeros : Ty → List Cell
  | .unit => []
  | .pair a b => zeros a ++ zeros b
  | .int k => [.val (.int k) (0 : Int)]
  | .bool => [.val .bool false]
  | .str => [.val .str []]
  | .slice _ => [.nilS]
  | .map k v => [.val (.map k v) []]

def hget : Hp → Nat → Option Blk
  | [], _ => none
  | (m, b) :: r, n => if m = n then some b else hget r n

def hrem : Hp → Nat → Hp
  | [], _ => []
  | (m, b) :: r, n => if m = n then hrem r n else (m, b) :: hrem r n

def hput : Hp → Nat → Blk → Hp
  | [], n, b => [(n, b)]
  | (m, c) :: r, n, b => if m = n then (n, b) :: hrem r n else (m, c) :: hput r n b

def asTy (t' : Ty) : (t : Ty) → t.den → Option t'.den := fun t x =>
  if h : t = t' then some (h ▸ x) else none

def arrAs (e' : Ty) (b : Option Blk) : Option (List e'.den) :=
  match b with
  | some (.arr e xs) => if h : e = e' then some (h ▸ xs) else none
  | _ => none

def mapAs (k' v' : Ty) (b : Option Blk) : Option (List (k'.den × v'.den)) :=
  match b with
  | some (.map k v es) => if h : k = k' ∧ v = v' then some (h.1 ▸ h.2 ▸ es) else none
  | _ => none

/-- lo up to hi of a list. -/
def cut {α : Type} (xs : List α) (lo hi : Int) : List α := (xs.drop lo.toNat).take (hi - lo).toNat

/-- A cell's content as typed data (what lies in a block of the call's own is copied out). -/
def cellAs (look : Nat → Option Blk) : (t : Ty) → Cell → Option t.den
  | .slice e, .nilS => some []
  | .slice e, .own n e' => if e' = e then arrAs e (look n) else none
  | .slice e, .sub n e' lo hi => if e' = e then (arrAs e (look n)).map fun xs => cut xs lo hi else none
  | .slice e, .clp n e' lo hi => if e' = e then (arrAs e (look n)).map fun xs => cut xs lo hi else none
  | .slice e, .clip e' xs => if h : e' = e then some (h ▸ xs) else none
  | .slice e, .nq _ e' xs => if h : e' = e then some (h ▸ xs) else none
  | .map k v, .mp n k' v' => if k' = k ∧ v' = v then mapAs k v (look n) else none
  | t, .val t' x => asTy t t' x
  | _, _ => none

def parse (look : Nat → Option Blk) : (t : Ty) → List Cell → Option (t.den × List Cell)
  | .unit, cs => some ((), cs)
  | .pair a b, cs => match parse look a cs with
    | none => none
    | some (x, r) => match parse look b r with
      | none => none
      | some (y, r') => some ((x, y), r')
  | .int k, c :: r => (cellAs look (.int k) c).map (·, r)
  | .bool, c :: r => (cellAs look .bool c).map (·, r)
  | .str, c :: r => (cellAs look .str c).map (·, r)
  | .slice e, c :: r => (cellAs look (.slice e) c).map (·, r)
  | .map k v, c :: r => (cellAs look (.map k v) c).map (·, r)
  | _, [] => none

def cellsOf : AVal → List Cell
  | .one c => [c]
  | .pure t x => flat t x
  | .agg cs => cs
  | .tup _ => []

def parseAll (look : Nat → Option Blk) (t : Ty) (cs : List Cell) : Option t.den :=
  match parse look t cs with
  | some (x, []) => some x
  | _ => none

/-- a value whose make is known -/
def known : AVal → Bool
  | .one .undef => false
  | .tup _ => false
  | _ => true

/-- A value as typed data. -/
def reify (look : Nat → Option Blk) (t : Ty) : AVal → Option t.den
  | .pure t' x => asTy t t' x
  | v => if known v then parseAll look t (cellsOf v) else none

def mkV (agg : Bool) (cs : List Cell) : AVal :=
  if agg then .agg cs else match cs with
    | [c] => .one c
    | _ => .one .undef

def ownOf : Cell → List Nat
  | .own n _ => [n]
  | .sub n _ _ _ => [n]
  | .clp n _ _ _ => [n]
  | .mp n _ _ => [n]
  | _ => []

/-- The blocks that a cell names. -/
def namesOfCell : Cell → List Nat
  | .own n _ => [n]
  | .sub n _ _ _ => [n]
  | .clp n _ _ _ => [n]
  | .ptr n _ => [n]
  | .eptr n _ _ _ => [n]
  | .mp n _ _ => [n]
  | .fn _ caps => caps.map (·.1)
  | .self n _ => [n]
  | _ => []

/-- no cell of a block that points to itself -/
def noSelf : List Cell → Bool
  | [] => true
  | .self _ _ :: _ => false
  | _ :: r => noSelf r

/-- what is frozen: reads as pure data from now on. -/
def frzCell (n : Nat) (b : Blk) : Cell → Cell
  | .own m e => if m = n then match b with
      | .arr e' xs => if e' = e then .val (.slice e') xs else .undef
      | _ => .undef
    else .own m e
  | .sub m e lo hi => if m = n then match b with
      | .arr e' xs => if e' = e then .val (.slice e') (cut xs lo hi) else .undef
      | _ => .undef
    else .sub m e lo hi
  | .mp m k v => if m = n then match b with
      | .map k' v' es => if k' = k ∧ v' = v then .val (.map k' v') es else .undef
      | _ => .undef
    else .mp m k v
  | .clp m e lo hi => if m = n then .undef else .clp m e lo hi
  | c => c

def MAXL : Nat := 9223372036854775807

def bytesOf (s : ByteArray) : List Int := s.data.toList.map fun b => (b.toNat : Int)

def litCell : Value → Cell
  | .int k n => if k.wrap n = n then .val (.int k) n else .undef
  | .bool b => .val .bool b
  | .string s => if s.size ≤ MAXL then .val .str (bytesOf s) else .undef
  | .slice none 0 0 => .nilS
  | _ => .undef

def litV : Value → AVal
  | .agg cs => if cs.toList.all Value.oneCell' then .agg (cs.toList.map litCell) else .one .undef
  | v => .one (litCell v)

def rdT (fr : Fr) (t : Nat) : AVal := fr.getD t (.one .undef)

def rd (fr : Fr) : Operand → AVal
  | .tmp t => rdT fr t
  | .const v => litV v
  | .func f => .one (.fn f [])
  | .global _ => .one .undef

def rdC (fr : Fr) (x : Operand) : Cell :=
  match rd fr x with
  | .one c => c
  | _ => .undef

def putT (fr : Fr) (d : Option Tmp) (v : AVal) : Fr :=
  match d with
  | some d => fr.set d v
  | none => fr

/-! ### maps -/
/-- the kinds of keys -/
def keyTy : Ty → Bool
  | .int _ => true
  | .bool => true
  | .str => true
  | _ => false

def keyEq : (t : Ty) → t.den → t.den → Bool
  | .int _, a, b => decide (a = b)
  | .bool, a, b => a == b
  | .str, a, b => decide (a = b)
  | _, _, _ => false

def mapGet {k v : Ty} : List (k.den × v.den) → k.den → Option v.den
  | [], _ => none
  | e :: r, x => if keyEq k x e.1 = true then some e.2 else mapGet r x

def mapPut {k v : Ty} : List (k.den × v.den) → k.den → v.den → List (k.den × v.den)
  | [], x, y => [(x, y)]
  | e :: r, x, y => if keyEq k x e.1 = true then (x, y) :: r else e :: mapPut r x y

/-- a value of this kind -/
def valA (t : Ty) (x : t.den) : AVal := if t.isAgg = true then .pure t x else .one (.val t x)

/-! ### arithmetic -/
def bitAnd (k : IntKind) (x y : Int) : Int := k.wrap (BitVec.ofInt k.bits x &&& BitVec.ofInt k.bits y).toNat
def bitOr (k : IntKind) (x y : Int) : Int := k.wrap (BitVec.ofInt k.bits x ||| BitVec.ofInt k.bits y).toNat
def bitXor (k : IntKind) (x y : Int) : Int := k.wrap (BitVec.ofInt k.bits x ^^^ BitVec.ofInt k.bits y).toNat
def bitAndNot (k : IntKind) (x y : Int) : Int := k.wrap (BitVec.ofInt k.bits x &&& ~~~(BitVec.ofInt k.bits y)).toNat
def shlI (k : IntKind) (x y : Int) : Int := k.wrap (x * 2 ^ (min y.toNat k.bits))
def shrI (k : IntKind) (x y : Int) : Int := x.fdiv (2 ^ (min y.toNat k.bits))
/-- texts in bytewise order -/
def strLess : List Int → List Int → Bool
  | _, [] => false
  | [], _ :: _ => true
  | a :: x, b :: y => decide (a < b) || (decide (a = b) && strLess x y)

/-- result and the test under which Go goes on -/
def intOp (op : BinOp) (k : IntKind) (a b : Int) : Option (Bool × Cell) :=
  match op with
  | .add => some (true, .val (.int k) (k.wrap (a + b)))
  | .sub => some (true, .val (.int k) (k.wrap (a - b)))
  | .mul => some (true, .val (.int k) (k.wrap (a * b)))
  | .quo => some (decide (b ≠ 0), .val (.int k) (k.wrap (a.tdiv b)))
  | .rem => some (decide (b ≠ 0), .val (.int k) (a.tmod b))
  | .and => some (true, .val (.int k) (bitAnd k a b))
  | .or => some (true, .val (.int k) (bitOr k a b))
  | .xor => some (true, .val (.int k) (bitXor k a b))
  | .andNot => some (true, .val (.int k) (bitAndNot k a b))
  | .eql => some (true, .val .bool (decide (a = b)))
  | .neq => some (true, .val .bool (!decide (a = b)))
  | .lss => some (true, .val .bool (decide (a < b)))
  | .leq => some (true, .val .bool (decide (a ≤ b)))
  | .gtr => some (true, .val .bool (decide (a > b)))
  | .geq => some (true, .val .bool (decide (a ≥ b)))
  | _ => none

def strOp (op : BinOp) (a b : List Int) : Option (Bool × Cell) :=
  match op with
  | .add => some (decide (a.length + b.length ≤ 140737488355328), .val .str (a ++ b))
  | .eql => some (true, .val .bool (decide (a = b)))
  | .neq => some (true, .val .bool (!decide (a = b)))
  | .lss => some (true, .val .bool (strLess a b))
  | .leq => some (true, .val .bool (strLess a b || decide (a = b)))
  | .gtr => some (true, .val .bool (!(strLess a b || decide (a = b))))
  | .geq => some (true, .val .bool (!strLess a b))
  | _ => none

def binOpA (isBool : Bool) (op : BinOp) (x y : Cell) : Option (Bool × Cell) :=
  match x, y with
  | .val (.int k) a, .val (.int k') b =>
    match op with
    | .shl => some (decide (0 ≤ b), .val (.int k) (shlI k a b))
    | .shr => some (decide (0 ≤ b), .val (.int k) (shrI k a b))
    | _ => if k = k' then intOp op k a b else none
  | .val .bool a, .val .bool b =>
    if isBool then match op with
    | .eql => some (true, .val .bool (a == b))
    | .neq => some (true, .val .bool (!(a == b)))
    | _ => none
    else none
  | .val .str a, .val .str b => strOp op a b
  | _, _ => none

def unOpA (op : UnOp) (x : Cell) : Option Cell :=
  match op, x with
  | .neg, .val (.int k) a => some (.val (.int k) (k.wrap (0 - a)))
  | .xor, .val (.int k) a => some (.val (.int k) (bitXor k (if k.signed then -1 else k.max) a))
  | .not, .val .bool b => some (.val .bool (!b))
  | _, _ => none

/-- the most bytes that a slice of the call's own may take -/
def ROOM : Nat := 140737488355328

end Go.Ab
