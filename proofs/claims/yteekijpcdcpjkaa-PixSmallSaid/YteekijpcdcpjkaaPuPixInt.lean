/-
  PLAIN: the squares' numbers, as Go works them out.
-/
import Derived.Test.YteekijpcdcpjkaaPuPixSmall
set_option linter.unusedVariables false
set_option linter.unusedSimpArgs false
set_option linter.unusedSectionVars false
namespace Go.Proofs.Yteekijpcdcpjkaa
open Go Go.Ab

theorem set_map {M j : Nat} {g g' : Nat → Int} {v : Int} (hj : j < M) (h1 : g' j = v) (h2 : ∀ k, k ≠ j → g' k = g k) : ((List.range M).map g).set j v = (List.range M).map g' := by
  apply List.ext_getElem
  · simp
  · intro i h3 h4
    simp only [List.getElem_set, List.getElem_map, List.getElem_range]
    by_cases hij : j = i
    · subst hij; rw [if_pos rfl, h1]
    · rw [if_neg hij, h2 i (Ne.symm hij)]

theorem getI_map {M j : Nat} {g : Nat → Int} (hj : j < M) : getI (0 : Int) ((List.range M).map g) (j : Int) = g j := by
  rw [getI_get (by simpa using hj)]
  simp

theorem w64n (n : Nat) (h : n ≤ 1000000000000) : IntKind.wrap .i64 (n : Int) = (n : Int) := w64 (by omega) (by omega)

/-- a dot's square, as Go works it out -/
theorem sq_int {w s i : Nat} (hs1 : 1 ≤ s) (hi : i ≤ 100000) (hq : sq w s i ≤ 100000) :
    IntKind.wrap .i64 (IntKind.wrap .i64 (IntKind.wrap .i64 (Int.tdiv (IntKind.wrap .i64 (Int.tdiv (i : Int) (w : Int))) (s : Int)) * (across w s : Int)) + IntKind.wrap .i64 (Int.tdiv (Int.tmod (i : Int) (w : Int)) (s : Int))) = (sq w s i : Int) := by
  have h1 : i / w ≤ i := Nat.div_le_self _ _
  have h2 : i / w / s ≤ i / w := Nat.div_le_self _ _
  have h3 : i % w ≤ i := Nat.mod_le _ _
  have h4 : i % w / s ≤ i % w := Nat.div_le_self _ _
  have e3 : Int.tmod (i : Int) (w : Int) = ((i % w : Nat) : Int) := by rw [Int.tmod_eq_emod_of_nonneg (by omega)]; simp
  have hq' : i / w / s * across w s + i % w / s ≤ 100000 := hq
  rw [tdiv_nat, w64n (i / w) (Nat.le_trans h1 (by omega)), tdiv_nat, w64n (i / w / s) (Nat.le_trans h2 (Nat.le_trans h1 (by omega))), e3, tdiv_nat, w64n (i % w / s) (Nat.le_trans h4 (Nat.le_trans h3 (by omega)))]
  have e4 : ((i / w / s : Nat) : Int) * (across w s : Int) = ((i / w / s * across w s : Nat) : Int) := by simp
  rw [e4, w64n (i / w / s * across w s) (Nat.le_trans (Nat.le_add_right _ _) (Nat.le_trans hq' (by omega)))]
  have e5 : ((i / w / s * across w s : Nat) : Int) + ((i % w / s : Nat) : Int) = (sq w s i : Int) := by unfold sq; simp
  rw [e5, w64 (by omega) (by omega)]

theorem across_le {w s : Nat} (hw : 1 ≤ w) (hw2 : w ≤ 64) : across w s ≤ 64 := by
  unfold across
  have := Nat.div_le_self (w - 1) s
  omega

theorem across_ref {w s : Nat} (hw1 : 1 ≤ w) (hw : w ≤ 64) (hs1 : 1 ≤ s) : IntKind.wrap .i64 (IntKind.wrap .i64 (Int.tdiv (IntKind.wrap .i64 ((w : Int) - 1)) (s : Int)) + 1) = (across w s : Int) := by
  have e1 : (w : Int) - 1 = ((w - 1 : Nat) : Int) := by omega
  have h1 := Nat.div_le_self (w - 1) s
  rw [e1, w64 (x := ((w - 1 : Nat) : Int)) (by omega) (by omega), tdiv_nat, w64n ((w - 1) / s) (Nat.le_trans h1 (by omega))]
  have e2 : (((w - 1) / s : Nat) : Int) + 1 = (across w s : Int) := by unfold across; simp
  have := across_le (s := s) hw1 hw
  rw [e2, w64 (by omega) (by omega)]

end Go.Proofs.Yteekijpcdcpjkaa
