/-
  WHAT slices.Sort AND slices.Compact MAKE of whole numbers.
-/
import Derived.Test.YtnklmlnkiepdiaaGreatDoorAbDefs
import Derived.Lib.SlicesCompact
set_option linter.unusedVariables false
namespace Go.Ab

def sortInts (xs : List Int) : List Int := xs.mergeSort fun x y => decide (x ≤ y)
def compactInts (xs : List Int) : List Int := Go.Lib.compact xs
/-- the whole block behind Compact -/
def compactAll (xs : List Int) : List Int := compactInts xs ++ List.replicate (xs.length - (compactInts xs).length) 0

end Go.Ab
