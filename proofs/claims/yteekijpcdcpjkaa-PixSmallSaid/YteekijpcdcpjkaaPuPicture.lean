/-
  PLAIN LAW: the pictures that the laws draw are right ones.
-/
import Derived.Test.YteekijpcdcpjkaaPuStream
import Derived.Test.YteekijpcdcpjkaaPuRepeat
set_option linter.unusedVariables false
set_option linter.unusedSimpArgs false
namespace Go.Proofs.Yteekijpcdcpjkaa
open Go Go.Ab

theorem picture_ok (N : Nat) (l : List Int) (hN : 1048577 < N) : ∃ (w h : Nat) (dots : List Int), wrackkeep2_picture N l = some ((w : Int), ((h : Int), dots)) ∧ 1 ≤ w ∧ w ≤ 20 ∧ 1 ≤ h ∧ h ≤ 12 ∧ dots.length = w * h ∧ ∀ x ∈ dots, 0 ≤ x ∧ x < 16 := by
  unfold wrackkeep2_picture
  obtain ⟨r1, l1, e1, a1, a2⟩ := next_eq N l 20 (by omega) (by omega)
  obtain ⟨r2, l2, e2, b1, b2⟩ := next_eq N l1 12 (by omega) (by omega)
  rw [bindO_of e1]
  simp only
  rw [bindO_of e2]
  simp only
  rw [w64 (x := 1 + r1) (by omega) (by omega), w64 (x := 1 + r2) (by omega) (by omega)]
  obtain ⟨w, hw⟩ := Int.eq_ofNat_of_zero_le (show 0 ≤ 1 + r1 by omega)
  obtain ⟨h, hh⟩ := Int.eq_ofNat_of_zero_le (show 0 ≤ 1 + r2 by omega)
  rw [hw, hh]
  have hwh : w * h ≤ 20 * 12 := Nat.mul_le_mul (by omega) (by omega)
  have em : (w : Int) * (h : Int) = ((w * h : Nat) : Int) := by simp
  refine iter_rule (fun v => ∃ (rest dots : List Int), v = ((0 : Int), (0 : Int), rest, (w : Int), (h : Int), dots, ()) ∧ dots.length ≤ 300 ∧ ∀ x ∈ dots, 0 ≤ x ∧ x < 16) (fun v => w * h - v.2.2.2.2.2.1.length)
    (fun r => ∃ (w h : Nat) (dots : List Int), r = some ((w : Int), ((h : Int), dots)) ∧ 1 ≤ w ∧ w ≤ 20 ∧ 1 ≤ h ∧ h ≤ 12 ∧ dots.length = w * h ∧ ∀ x ∈ dots, 0 ≤ x ∧ x < 16) ?_ N _ ⟨l2, [], rfl, by simp, by simp⟩ (by simp; omega)
  rintro v again ⟨rest, dots, rfl, hd, hx⟩ hag
  unfold wrackkeep2_picture.s0
  simp only [decide_eq_true_eq]
  rw [em, w64 (x := ((w * h : Nat) : Int)) (by omega) (by omega)]
  by_cases hlt : dots.length < w * h
  · rw [if_pos (by omega)]
    obtain ⟨r3, l3, e3, c1, c2⟩ := next_eq N rest 16 (by omega) (by omega)
    obtain ⟨r4, l4, e4, d1, d2⟩ := next_eq N l3 5 (by omega) (by omega)
    rw [bindO_of e3]
    simp only
    rw [bindO_of e4]
    simp only
    rw [wu8 (by omega) (by omega), w64 (x := 1 + r4) (by omega) (by omega)]
    obtain ⟨k, hk⟩ := Int.eq_ofNat_of_zero_le (show 0 ≤ 1 + r4 by omega)
    rw [hk, bindO_of (repeat_eq N r3 k (by omega) (by omega)), gate_pos (room_of (by simp; omega) (by simp; omega))]
    refine hag _ ⟨l4, dots ++ List.replicate k r3, rfl, by simp; omega, fun x hx' => ?_⟩ (by simp; omega)
    rcases List.mem_append.1 hx' with hx' | hx'
    · exact hx x hx'
    · rw [(List.mem_replicate.1 hx').2]; exact ⟨c1, c2⟩
  · rw [if_neg (by omega)]
    rw [gate_pos (bounds_of (by omega) (by omega) (by omega))]
    have ec : cut dots 0 ((w * h : Nat) : Int) = dots.take (w * h) := by
      have := cut_nat dots 0 (w * h) (by omega)
      simpa using this
    rw [ec]
    exact ⟨w, h, dots.take (w * h), rfl, by omega, by omega, by omega, by omega, by simp; omega, fun x hx' => hx x (List.mem_of_mem_take hx')⟩
end Go.Proofs.Yteekijpcdcpjkaa
