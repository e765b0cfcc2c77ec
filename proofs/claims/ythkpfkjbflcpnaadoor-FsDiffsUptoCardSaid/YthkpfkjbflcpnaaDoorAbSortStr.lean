/-
  THE ORDER OF TEXTS, for slices.SortFunc by a text.
-/
import Derived.Test.YthkpfkjbflcpnaaDoorAbSortF
import Derived.Test.YthkpfkjbflcpnaaDoorAbStrs
set_option linter.unusedVariables false
set_option linter.unusedSimpArgs false
namespace Go.Ab
open Go.Sort (SWO)
open Go.Proofs (ltOf)

theorem LtOK.swo {α : Type} {lt : α → α → Bool} (h : LtOK lt) : SWO lt := ⟨h.irrefl, h.trans, h.ntrans⟩

theorem compareI_neg : ∀ a b : List Int, decide (compareI a b < 0) = strLess a b
  | [], [] => rfl
  | [], _ :: _ => rfl
  | _ :: _, [] => rfl
  | x :: r, y :: q => by
    simp only [compareI, strLess]
    by_cases h1 : x < y
    · simp [h1]
    · by_cases h2 : y < x
      · have h3 : ¬ x = y := by omega
        simp [h1, h2, h3]
      · have h3 : x = y := by omega
        simp [h1, h2, h3, compareI_neg r q]

/-- the sort's test at two texts -/
theorem ltOf_bytes {α : Type} (f : α → ByteArray) : ltOf (fun x y : α => Go.Lib.compareBytes (f x).data.toList (f y).data.toList) = fun x y => strLess (bytesOf (f x)) (bytesOf (f y)) := by
  funext x y
  show decide (Go.Lib.compareBytes (f x).data.toList (f y).data.toList < 0) = _
  rw [← compareI_eq, compareI_neg, ← bytesOf_map, ← bytesOf_map]

end Go.Ab
