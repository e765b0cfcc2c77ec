/-
  PLAIN: slices.Concat of bytes.
-/
import Derived.Test.YteekijpcdcpjkaaDoorAbPlain
import Derived.Test.YteekijpcdcpjkaaDoorPu
set_option linter.unusedVariables false
set_option linter.unusedSimpArgs false
namespace Go.Proofs.YteekijpcdcpjkaaDoor
open Go Go.Ab

theorem flat_take (ls : List (List Int)) (i : Nat) (h : i < ls.length) : (ls.take (i + 1)).flatten = (ls.take i).flatten ++ ls.getD i [] := by
  rw [List.take_add_one, List.flatten_append, List.getElem?_eq_getElem h, List.getD_eq_getElem?_getD, List.getElem?_eq_getElem h]
  simp

theorem flat_le (ls : List (List Int)) (i : Nat) : (ls.take i).flatten.length ≤ ls.flatten.length := by
  conv => rhs; rw [← List.take_append_drop i ls]
  rw [List.flatten_append, List.length_append]
  omega

theorem concat_tail {R : Type} (N : Nat) (s : R) (k2 : (List Int × Unit) → R) (ls : List (List Int)) (hl : ls.length ≤ 1048576) (ht : ls.flatten.length ≤ 70368744177664) (Q : R → Prop) (h : Q (k2 (ls.flatten, ()))) (n : Nat) (hn : ls.length < n) :
    Q (iter (slices_Concat_byte.s1 N s k2 (ls, (ls.length : Int), ())) s n (([] : List Int), (0 : Int), ())) := by
  refine iter_rule (fun v => ∃ i : Nat, v = ((ls.take i).flatten, (i : Int), ()) ∧ i ≤ ls.length) (fun v => ls.length - v.2.1.toNat) Q ?_ n _ ⟨0, rfl, Nat.zero_le _⟩ (by simp only; omega)
  rintro v again ⟨i, rfl, hi⟩ hag
  unfold slices_Concat_byte.s1
  simp only [decide_eq_true_eq]
  by_cases hlt : i < ls.length
  · have h1 := flat_take ls i hlt
    have h2 := flat_le ls (i + 1)
    rw [h1, List.length_append] at h2
    rw [if_pos (by omega), gate_pos (inR_of (by omega) (by omega)), getI_nat, gate_pos (room_of (by omega) (by omega)), ← h1, w64 (by omega) (by omega)]
    exact hag _ ⟨i + 1, by simp, by omega⟩ (by simp only; omega)
  · rw [if_neg (by omega)]
    have : i = ls.length := by omega
    subst this
    rw [List.take_length]
    exact h

theorem concat_eq (N : Nat) (ls : List (List Int)) (hl : ls.length ≤ 1048576) (ht : ls.flatten.length ≤ 70368744177664) (hN : 1048577 < N) : slices_Concat_byte N ls = some ls.flatten := by
  unfold slices_Concat_byte
  refine iter_rule (fun v => ∃ i : Nat, v = (((ls.take i).flatten.length : Int), (i : Int), ()) ∧ i ≤ ls.length) (fun v => ls.length - v.2.1.toNat) (fun o => o = some ls.flatten) ?_ N _ ⟨0, rfl, Nat.zero_le _⟩ (by simp only; omega)
  rintro v again ⟨i, rfl, hi⟩ hag
  unfold slices_Concat_byte.s0
  simp only [decide_eq_true_eq]
  by_cases hlt : i < ls.length
  · have h1 := flat_take ls i hlt
    have h2 := flat_le ls (i + 1)
    rw [h1, List.length_append] at h2
    have e : (((ls.take i).flatten.length : Nat) : Int) + ((ls.getD i []).length : Int) = ((ls.take (i + 1)).flatten.length : Int) := by
      rw [h1, List.length_append]; omega
    have hbd := flat_le ls (i + 1)
    rw [if_pos (by omega), gate_pos (inR_of (by omega) (by omega)), getI_nat, e, w64 (x := ((ls.take (i + 1)).flatten.length : Int)) (by omega) (by omega), if_neg (by omega), w64 (by omega) (by omega)]
    exact hag _ ⟨i + 1, by simp, by omega⟩ (by simp only; omega)
  · have : i = ls.length := by omega
    subst this
    rw [if_neg (by omega), List.take_length, if_neg (by omega)]
    have e0 : IntKind.wrap .i64 ((0 : Int) - 0) = 0 := by decide
    rw [e0, Int.sub_zero, w64 (by omega) (by omega)]
    by_cases h0 : 0 < ls.flatten.length
    · have e1 : ((ls.flatten.length : Int)).toNat = ls.flatten.length := Int.toNat_natCast _
      rw [if_pos (by omega), gate_pos (by decide), gate_pos (by rw [Bool.and_eq_true]; exact ⟨decide_eq_true (by omega), room_of (by rw [e1]; omega) (by rw [e1]; omega)⟩), gate_pos (bounds_of (by omega) (by omega) (Int.natCast_nonneg _))]
      have e2 : cut (List.replicate ((ls.flatten.length : Int)).toNat (0 : Int)) (0 : Int) (0 : Int) = [] := by simp [cut]
      rw [e2]
      exact concat_tail N none _ ls hl ht (fun o => o = some ls.flatten) rfl N (by omega)
    · rw [if_neg (by omega)]
      exact concat_tail N none _ ls hl ht (fun o => o = some ls.flatten) rfl N (by omega)

end Go.Proofs.YteekijpcdcpjkaaDoor
