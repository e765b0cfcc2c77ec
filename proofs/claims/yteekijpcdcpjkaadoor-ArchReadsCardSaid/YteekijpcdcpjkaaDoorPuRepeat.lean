/-
  PLAIN LAW: slices.Repeat of one byte.
-/
import Derived.Test.YteekijpcdcpjkaaDoorPuEq
set_option linter.unusedVariables false
set_option linter.unusedSimpArgs false
namespace Go.Proofs.YteekijpcdcpjkaaDoor
open Go Go.Ab

/-! ### slices.Repeat of one byte -/
theorem mul64_small (N : Nat) (x y : Int) (hx : 0 ≤ x) (hx' : x < 4294967296) (hy : 0 ≤ y) (hy' : y < 2147483648) : bits_Mul N x y = some (0, x * y) := by
  have hxy : 0 ≤ x * y := Int.mul_nonneg hx hy
  have hxy' : x * y ≤ 4294967295 * 2147483647 := Int.mul_le_mul (by omega) (by omega) hy (by omega)
  unfold bits_Mul bits_Mul64
  simp only [gate_pos (show decide (0 ≤ (32 : Int)) = true from rfl)]
  have e1 : bitAnd .u64 x 4294967295 = x := by rw [bitAnd_mask32 hx (by omega)]; omega
  have e2 : bitAnd .u64 y 4294967295 = y := by rw [bitAnd_mask32 hy (by omega)]; omega
  have sh : ∀ z : Int, shrI .u64 z 32 = z / 4294967296 := fun z => by
    have := shrI_nat .u64 (x := z) 32 (by decide)
    simpa using this
  have e3 : x / 4294967296 = 0 := by omega
  have e4 : y / 4294967296 = 0 := by omega
  rw [e1, e2]
  simp only [sh, e3, e4, Int.zero_mul, Int.mul_zero, Int.zero_add, Int.add_zero]
  rw [wu64 hxy (by omega), wu64 (x := 0) (by omega) (by omega)]
  have d1 : 0 ≤ x * y / 4294967296 := Int.ediv_nonneg hxy (by omega)
  have d2 : x * y / 4294967296 < 2147483648 := by omega
  simp only [Int.zero_add]
  rw [wu64 d1 (by omega), bitAnd_mask32 d1 (by omega)]
  have d3 : x * y / 4294967296 % 4294967296 = x * y / 4294967296 := by omega
  have d4 : x * y / 4294967296 / 4294967296 = 0 := by omega
  have z : IntKind.wrap .u64 0 = 0 := wu64 (by omega) (by omega)
  simp only [d3, d4, z, Int.add_zero, Int.zero_add]
  rw [wu64 d1 (by omega), d4, z]
  rfl

/-- a list's head overwritten -/
theorem over_rep (n m L : Nat) (c d : Int) (hm : m ≤ n) (hL : n + m ≤ L) : over (List.replicate n c ++ List.replicate (L - n) d) (List.replicate n c) n m = List.replicate (n + m) c ++ List.replicate (L - (n + m)) d := by
  unfold over
  rw [List.take_left' (by simp), List.drop_append, List.take_replicate, Nat.min_eq_left hm]
  simp only [List.length_replicate, List.drop_replicate]
  rw [show n - (n + m) = 0 by omega, show n + m - n = m by omega, show L - n - m = L - (n + m) by omega, ← List.replicate_append_replicate]
  simp

theorem repeat_loop {R : Type} (N : Nat) (s : R) (k0 : (List Int × Unit) → R) (c : Int) (L : Nat) (hL : L ≤ 140737488355328) (Q : R → Prop) (h0 : Q (k0 (List.replicate L c, ())))
    (k n : Nat) (hk : 1 ≤ k ∨ L = 0) (hkL : k ≤ L) (hn : L < n) : Q (iter (slices_Repeat_byte.s0 N s k0 ()) s n (List.replicate k c ++ List.replicate (L - k) 0, (k : Int), ())) := by
  refine iter_rule (fun v => ∃ k : Nat, (1 ≤ k ∨ L = 0) ∧ k ≤ L ∧ v = (List.replicate k c ++ List.replicate (L - k) 0, (k : Int), ())) (fun v => L - v.2.1.toNat) Q ?_ n _ ⟨k, hk, hkL, rfl⟩ (by simp; omega)
  rintro v again ⟨k, hk, hkL, rfl⟩ hag
  unfold slices_Repeat_byte.s0
  simp only [decide_eq_true_eq, List.length_append, List.length_replicate]
  have e : k + (L - k) = L := by omega
  rw [e]
  by_cases hlt : k < L
  · rw [if_pos (by omega), gate_pos (bounds_of (by omega) (by omega) (by omega)), gate_pos (bounds_of (by omega) (by omega) (by omega))]
    have ec : cut (List.replicate k c ++ List.replicate (L - k) 0) 0 (k : Int) = List.replicate k c := by
      have := cut_nat (List.replicate k c ++ List.replicate (L - k) (0 : Int)) 0 k (Nat.zero_le _)
      simp only [Int.natCast_zero, List.drop_zero, Nat.sub_zero] at this
      rw [this, List.take_left' (by simp)]
    rw [ec]
    simp only [List.length_replicate, Int.toNat_natCast]
    have em : ((L : Int) - (k : Int)).toNat = L - k := by omega
    rw [em, over_rep k (min k (L - k)) L c 0 (Nat.min_le_left _ _) (by omega), w64 (by omega) (by omega)]
    have hmin : min k (L - k) = k ∨ min k (L - k) = L - k := by omega
    refine hag _ ⟨k + min k (L - k), by omega, by omega, ?_⟩ ?_
    · simp
    · simp only [Int.toNat_natCast]
      omega
  · rw [if_neg (by omega)]
    have hk2 : k = L := by omega
    subst hk2
    simpa using h0

theorem repeat_eq (N : Nat) (c : Int) (n : Nat) (hn : n < 2147483648) (hN : n < N) : slices_Repeat_byte N [c] (n : Int) = some (List.replicate n c) := by
  unfold slices_Repeat_byte
  simp only [decide_eq_true_eq, List.length_singleton]
  rw [if_neg (by omega)]
  have e1 : IntKind.wrap .u64 ((1 : Nat) : Int) = 1 := wu64 (by omega) (by omega)
  have e2 : IntKind.wrap .u64 (n : Int) = n := wu64 (by omega) (by omega)
  rw [e1, e2, bindO_of (mul64_small N 1 n (by omega) (by omega) (by omega) (by omega))]
  simp only [Int.one_mul, gt_iff_lt, Int.lt_irrefl, if_false]
  rw [bindO_of rfl]
  rw [if_neg (by simp; omega)]
  have e3 : IntKind.wrap .i64 (n : Int) = n := w64 (by omega) (by omega)
  rw [e3, gate_pos (by simp [room_of (n := n) (b := 1) (by omega) (by omega)])]
  simp only [Int.toNat_natCast, List.length_replicate]
  have e4 : over (List.replicate n (0 : Int)) [c] 0 (min 1 n) = List.replicate (min 1 n) c ++ List.replicate (n - min 1 n) 0 := by
    unfold over
    rcases Nat.eq_zero_or_pos n with h | h
    · subst h; simp
    · have : min 1 n = 1 := by omega
      rw [this]; simp
  rw [e4]
  exact repeat_loop N none _ c n (by omega) (fun r => r = some (List.replicate n c)) rfl (min 1 n) N (by omega) (by omega) hN

end Go.Proofs.YteekijpcdcpjkaaDoor
