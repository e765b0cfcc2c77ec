/-
  PLAIN LAW: the numbers that a law draws from its list: Below and (*Stream).Next.
-/
import Derived.Test.YteekijpcdcpjkaaAbPlain
import Derived.Test.YteekijpcdcpjkaaPu
set_option linter.unusedVariables false
set_option linter.unusedSimpArgs false
namespace Go.Proofs.Yteekijpcdcpjkaa
open Go Go.Ab

theorem below_eq (N : Nat) (x n : Int) (h1 : 1 ≤ n) (h2 : n ≤ 4294967296) : wrackmake_Below N x n = some (x % n) := by
  unfold wrackmake_Below
  rw [gate_pos (by simp; omega)]
  simp only [decide_eq_true_eq]
  have hb := Int.emod_nonneg x (show n ≠ 0 by omega)
  have hl := Int.emod_lt_of_pos x (show 0 < n by omega)
  have hm : Int.tmod x n = if 0 ≤ x ∨ n ∣ x then x % n else x % n - n := by
    rw [Int.tmod_eq_emod]
    by_cases hc : 0 ≤ x ∨ n ∣ x
    · rw [if_pos hc, if_pos hc]; omega
    · rw [if_neg hc, if_neg hc]; omega
  by_cases hc : 0 ≤ x ∨ n ∣ x
  · rw [if_pos hc] at hm
    rw [hm, if_neg (by omega)]
  · rw [if_neg hc] at hm
    rw [hm, if_pos (by omega), w64 (by omega) (by omega)]
    congr 1
    omega

theorem next_eq (N : Nat) (l : List Int) (n : Int) (h1 : 1 ≤ n) (h2 : n ≤ 4294967296) : ∃ r l', wrackmake_Stream_Next N (l, ()) n = some (r, (l', ())) ∧ 0 ≤ r ∧ r < n := by
  unfold wrackmake_Stream_Next
  simp only [decide_eq_true_eq]
  by_cases hl : l.length = 0
  · have hb : (if (l.length : Int) = 0 then some true else some (decide (n < 1))) = some true := by rw [if_pos (by omega)]
    rw [bindO_of hb, if_pos rfl]
    exact ⟨0, l, rfl, by omega, by omega⟩
  · have hb : (if (l.length : Int) = 0 then some true else some (decide (n < 1))) = some false := by
      rw [if_neg (by omega)]; simp; omega
    rw [bindO_of hb, if_neg (by simp), gate_pos (inR_of (by omega) (by omega)), gate_pos (bounds_of (by omega) (by omega) (by omega)), bindO_of (below_eq N _ n h1 h2)]
    exact ⟨_, _, rfl, Int.emod_nonneg _ (by omega), Int.emod_lt_of_pos _ (by omega)⟩
end Go.Proofs.Yteekijpcdcpjkaa
