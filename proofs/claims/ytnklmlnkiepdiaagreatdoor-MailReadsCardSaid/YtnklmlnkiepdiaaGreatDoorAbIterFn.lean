/-
  WHAT THE LIBRARY's ITERATORS HAND ON, as plain lists.
-/
import Derived.Test.YtnklmlnkiepdiaaGreatDoorAbDen
set_option linter.unusedVariables false
namespace Go.Ab

/-- what slices.Chunk hands on -/
def chunks {α : Type} (n : Nat) (xs : List α) : List (List α) := (List.range ((xs.length + n - 1) / n)).map fun i => (xs.drop (i * n)).take n

def chunkGo (xs : List Int) (n : Int) : Option (List (List Int)) := if 1 ≤ n ∧ n ≤ 1048576 ∧ 0 < xs.length ∧ xs.length ≤ 1048576 then some (chunks n.toNat xs) else none
theorem chunkGo_some {xs : List Int} {n : Int} {r : List (List Int)} (h : chunkGo xs n = some r) : ∃ m : Nat, n = (m : Int) ∧ 0 < m ∧ m ≤ 1048576 ∧ 0 < xs.length ∧ xs.length ≤ 1048576 ∧ r = chunks m xs := by
  unfold chunkGo at h
  split at h
  · rename_i hc
    obtain ⟨c1, c2, c3, c4⟩ := hc
    obtain ⟨m, rfl⟩ := Int.eq_ofNat_of_zero_le (show 0 ≤ n by omega)
    simp only [Option.some.injEq, Int.toNat_natCast] at h
    exact ⟨m, rfl, by omega, by omega, c3, c4, h.symm⟩
  · cases h

/-- what slices.Backward hands on -/
def backs (xs : List Int) : List (Int × Int) := (List.range xs.length).map fun i => (((xs.length - 1 - i : Nat) : Int), xs.getD (xs.length - 1 - i) 0)
def backGo (xs : List Int) : Option (List (Int × Int)) := if xs.length ≤ 1048576 then some (backs xs) else none
theorem backGo_some {xs : List Int} {r : List (Int × Int)} (h : backGo xs = some r) : xs.length ≤ 1048576 ∧ r = backs xs := by
  unfold backGo at h
  split at h
  · rename_i hc
    exact ⟨hc, (Option.some.inj h).symm⟩
  · cases h

/-- what strings.Lines hands on -/
def linesI : List Int → List (List Int)
  | [] => []
  | x :: r => if x = 10 then [x] :: linesI r else
    match linesI r with
    | [] => [[x]]
    | h :: t => (x :: h) :: t
def linesGo (s : List Int) : Option (List (List Int)) := some (linesI s)

end Go.Ab
