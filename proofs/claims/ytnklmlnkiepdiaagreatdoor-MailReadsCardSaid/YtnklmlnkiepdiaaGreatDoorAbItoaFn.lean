/-
  strconv.Itoa, strings.ReplaceAll of one byte by nothing: what they come to.
-/
import Derived.Test.YtnklmlnkiepdiaaGreatDoorAbDefs
import Derived.Lib.ItoaNum
set_option linter.unusedVariables false
namespace Go.Ab

def itoaI (n : Int) : List Int := (Go.Lib.itoa n).map fun b => (b.toNat : Int)
def itoaF (n : Int) : Option (List Int) := some (itoaI n)

/-- strings.ReplaceAll of one byte by nothing -/
def dropF (s old new : List Int) : Option (List Int) :=
  match old, new with
  | [c], [] => if s.length < 4294967281 then some (s.filter fun x => decide (x ≠ c)) else none
  | _, _ => none

end Go.Ab
