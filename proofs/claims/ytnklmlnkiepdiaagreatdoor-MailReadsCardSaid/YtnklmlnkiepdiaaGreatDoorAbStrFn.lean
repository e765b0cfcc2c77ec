/-
  WHAT FUNCTIONS OF PACKAGE strings COME TO, over lists of bytes.
-/
import Derived.Test.YtnklmlnkiepdiaaGreatDoorAbDefs
set_option linter.unusedVariables false
namespace Go.Ab

/-- cut at every c -/
def splitI (c : Int) : List Int → List (List Int)
  | [] => [[]]
  | x :: r => if x = c then [] :: splitI c r else
    match splitI c r with
    | h :: t => (x :: h) :: t
    | [] => [[x]]

/-- where c stands first; -1: nowhere -/
def idxI (c : Int) : List Int → Int
  | [] => -1
  | x :: r => if x = c then 0 else if idxI c r = -1 then -1 else idxI c r + 1

def trimI (cs l : List Int) : List Int := ((l.reverse.dropWhile (cs.contains ·)).reverse).dropWhile (cs.contains ·)
def joinI (sep : List Int) (xs : List (List Int)) : List Int := sep.intercalate xs

/-- strings.genSplit at a separator of one byte -/
def genSplitF (s sep : List Int) (sv n : Int) : Option (List (List Int)) :=
  match sep with
  | [c] => if sv = 0 ∧ n = -1 ∧ s.length < 4294967281 then some (splitI c s) else none
  | _ => none

/-- strings.Index at one byte -/
def indexF (s sub : List Int) : Option Int :=
  match sub with
  | [c] => some (idxI c s)
  | _ => none

/-- where a piece stands first; -1: nowhere -/
def idxsI (sub : List Int) : List Int → Int
  | [] => if sub.isEmpty = true then 0 else -1
  | x :: r => if sub.isPrefixOf (x :: r) = true then 0 else if idxsI sub r = -1 then -1 else idxsI sub r + 1
/-- strings.Index at any piece -/
def indexG (s sub : List Int) : Option Int :=
  match sub with
  | [c] => some (idxI c s)
  | _ => if s.length < 4294967281 then some (idxsI sub s) else none

/-- strings.Trim at a cutset of ASCII -/
def trimF (s cs : List Int) : Option (List Int) :=
  if cs.all (fun x => decide (x < 128)) = true ∧ cs.length < 4294967281 then some (trimI cs s) else none

/-- strings.Join -/
def joinF (xs : List (List Int)) (sep : List Int) : Option (List Int) :=
  if (joinI sep xs).length ≤ 140737488355328 ∧ xs.length ≤ 140737488355328 then some (joinI sep xs) else none

/-- strings.Compare -/
def compareI : List Int → List Int → Int
  | [], [] => 0
  | [], _ :: _ => -1
  | _ :: _, [] => 1
  | x :: r, y :: q => if x < y then -1 else if y < x then 1 else compareI r q
def compareF (a b : List Int) : Option Int := some (compareI a b)

end Go.Ab
