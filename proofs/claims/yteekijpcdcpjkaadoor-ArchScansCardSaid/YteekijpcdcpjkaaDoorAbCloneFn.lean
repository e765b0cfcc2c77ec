/-
  slices.Clone OF A BLOCK OF ITS CALLER'S: what it makes.
-/
import Derived.Test.YteekijpcdcpjkaaDoorAbDen
namespace Go.Ab

def cloneF {α : Type} (b : Nat) (xs : List α) : Option (List α) := if roomFor xs.length b = true then some xs else none

end Go.Ab
