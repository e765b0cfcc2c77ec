/-
  PLAIN LAW: slices.Equal over bytes decides equality.
-/
import Derived.Test.YteekijpcdcpjkaaDoorAbPlain
import Derived.Test.YteekijpcdcpjkaaDoorPu
set_option linter.unusedVariables false
set_option linter.unusedSimpArgs false
namespace Go.Proofs.YteekijpcdcpjkaaDoor
open Go Go.Ab

/-! ### slices.Equal -/
theorem equal_loop {R : Type} (N : Nat) (s : R) (k0 : Unit → R) (kr : (Bool × Unit) → R) (xs ys : List Int) (hl : xs.length = ys.length) (hx : xs.length ≤ 140737488355328) (Q : R → Prop) (h0 : xs = ys → Q (k0 ())) (h1 : xs ≠ ys → Q (kr (false, ())))
    (n : Nat) (hn : xs.length < n) : Q (iter (slices_Equal_byte.s0 N s k0 kr (xs, ys, (xs.length : Int), ())) s n ((0 : Int), ())) := by
  refine iter_rule (fun v => ∃ i : Nat, v = ((i : Int), ()) ∧ i ≤ xs.length ∧ ∀ j, j < i → xs.getD j 0 = ys.getD j 0) (fun v => xs.length - v.1.toNat) Q ?_ n _ ⟨0, rfl, Nat.zero_le _, fun j hj => absurd hj (Nat.not_lt_zero _)⟩ (by simpa using hn)
  rintro v again ⟨i, rfl, hi, hall⟩ hag
  unfold slices_Equal_byte.s0
  simp only [decide_eq_true_eq]
  by_cases hlt : i < xs.length
  · rw [if_pos (by omega), gate_pos (inR_of (by omega) (by omega)), gate_pos (inR_of (by omega) (by omega))]
    rw [getI_nat, getI_nat]
    by_cases he : xs.getD i 0 = ys.getD i 0
    · rw [if_neg (by simpa using he), w64 (by omega) (by omega)]
      refine hag _ ⟨i + 1, by simp, by omega, fun j hj => ?_⟩ (by simp; omega)
      rcases Nat.lt_or_eq_of_le (Nat.le_of_lt_succ hj) with h | h
      · exact hall j h
      · subst h; exact he
    · rw [if_pos (by simpa using he)]
      exact h1 fun h => he (by rw [h])
  · rw [if_neg (by omega)]
    refine h0 (List.ext_getElem hl fun j h1 h2 => ?_)
    have := hall j (by omega)
    simpa [h1, h2] using this

theorem equal_eq (N : Nat) (xs ys : List Int) (hx : xs.length ≤ 140737488355328) (hN : xs.length < N) : slices_Equal_byte N xs ys = some (decide (xs = ys)) := by
  unfold slices_Equal_byte
  simp only [Bool.not_eq_true', decide_eq_false_iff_not]
  by_cases hl : xs.length = ys.length
  · rw [if_neg (by omega)]
    refine equal_loop N none _ _ xs ys hl hx (fun r => r = some (decide (xs = ys))) (fun h => by simp [h]) (fun h => by simp [h]) N hN
  · rw [if_pos (by omega)]
    simp only [Option.some.injEq, Bool.false_eq, decide_eq_false_iff_not]
    exact fun h => hl (by rw [h])

end Go.Proofs.YteekijpcdcpjkaaDoor
