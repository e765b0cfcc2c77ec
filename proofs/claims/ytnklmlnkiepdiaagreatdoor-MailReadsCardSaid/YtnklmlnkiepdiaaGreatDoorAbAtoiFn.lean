/-
  strconv.Atoi, strings.Cut at one byte: what they come to.
-/
import Derived.Test.YtnklmlnkiepdiaaGreatDoorAbDen
import Derived.Lib.AtoiAll
set_option linter.unusedVariables false
namespace Go.Ab

def toB (s : List Int) : List UInt8 := s.map fun x => UInt8.ofNat x.toNat
/-- the number, and whether there is no error -/
def atoiI (s : List Int) : Int × Bool :=
  match Go.Lib.atoiAll (toB s) with
  | .ok v => (v, true)
  | .«syntax» => (0, false)
  | .range => (Go.Lib.atoiSat (toB s), false)

def atoiJ : InlSum where
  run := fun {R} args hp nx K s => match args with
    | [.one (.val .str x)] => gate (decide (List.length x ≤ 281474976710656)) (K (.tup [(false, [.val (.int .i64) (atoiI x).1]), (false, [.ifc (atoiI x).2])]) hp nx) s
    | _ => s

/-- before the first c, behind it, whether there is one -/
def cutI (c : Int) : List Int → List Int × List Int × Bool
  | [] => ([], [], false)
  | x :: r => if x = c then ([], r, true) else (x :: (cutI c r).1, (cutI c r).2.1, (cutI c r).2.2)

def cutJ : InlSum where
  run := fun {R} args hp nx K s => match args with
    | [.one (.val .str x), .one (.val .str [c])] => gate (decide (List.length x < 4294967281)) (K (.tup [(false, [.val .str (cutI c x).1]), (false, [.val .str (cutI c x).2.1]), (false, [.val .bool (cutI c x).2.2])]) hp nx) s
    | _ => s

end Go.Ab
