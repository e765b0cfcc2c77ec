/-
  PLAIN: numbers as bytes, the lowest first.
-/
import Derived.Test.YteekijpcdcpjkaaDoorAbPlain
set_option linter.unusedVariables false
set_option linter.unusedSimpArgs false
namespace Go.Proofs.YteekijpcdcpjkaaDoor
open Go Go.Ab

/-- k bytes of n -/
def leB (k n : Nat) : List Int := (List.range k).map fun j => ((n / 256 ^ j % 256 : Nat) : Int)

theorem leB_len (k n : Nat) : (leB k n).length = k := by simp [leB]
theorem leB_zero (n : Nat) : leB 0 n = [] := rfl
theorem leB_succ (k n : Nat) : leB (k + 1) n = leB k n ++ [((n / 256 ^ k % 256 : Nat) : Int)] := by
  simp [leB, List.range_succ]

theorem le_next (n i : Nat) : n / 256 ^ i / 256 = n / 256 ^ (i + 1) := by
  rw [Nat.div_div_eq_div_mul, Nat.pow_succ]

theorem tmod_nat (m : Nat) : IntKind.wrap .u8 (Int.tmod (m : Int) 256) = ((m % 256 : Nat) : Int) := by
  rw [Int.tmod_eq_emod_of_nonneg (by omega)]
  rw [wu8 (by omega) (by omega)]
  omega
theorem tdiv_nat (m : Nat) (hm : m < 4611686018427387904) : IntKind.wrap .i64 (Int.tdiv (m : Int) 256) = ((m / 256 : Nat) : Int) := by
  rw [Int.tdiv_eq_ediv_of_nonneg (by omega)]
  rw [w64 (by omega) (by omega)]
  omega
theorem shr_nat (n i : Nat) (hi : i ≤ 8) : IntKind.wrap .u8 (shrI .i64 (n : Int) ((8 * i : Nat) : Int)) = ((n / 256 ^ i % 256 : Nat) : Int) := by
  rw [shrI_nat .i64 (8 * i) (by show 8 * i ≤ 64; omega), wu8_mod]
  have e : (2 : Int) ^ (8 * i) = ((256 ^ i : Nat) : Int) := by
    rw [Int.pow_mul, Int.natCast_pow]
    rfl
  rw [e, ← Int.natCast_ediv]
  omega

/-- one byte more -/
theorem le_set (base : List Int) (lo k n : Nat) (h : lo + k < base.length) :
    (base.take lo ++ leB k n ++ base.drop (lo + k)).set (lo + k) (((n / 256 ^ k % 256 : Nat) : Int)) = base.take lo ++ leB (k + 1) n ++ base.drop (lo + (k + 1)) := by
  have hl : (base.take lo ++ leB k n).length = lo + k := by
    rw [List.length_append, List.length_take, leB_len]; omega
  rw [List.set_append_right _ _ (by omega), hl, Nat.sub_self, List.drop_eq_getElem_cons h, leB_succ]
  simp [Nat.add_assoc]

theorem le_len (base : List Int) (lo k n : Nat) (h : lo + k ≤ base.length) : (base.take lo ++ leB k n ++ base.drop (lo + k)).length = base.length := by
  rw [List.length_append, List.length_append, List.length_take, leB_len, List.length_drop]
  omega

/-- a part of zeros is filled -/
theorem fill_next (A S : List Int) (m k : Nat) (hk : k ≤ m) (hS : S.length = k) : (A ++ List.replicate m (0 : Int)).take A.length ++ S ++ (A ++ List.replicate m (0 : Int)).drop (A.length + k) = (A ++ S) ++ List.replicate (m - k) 0 := by
  rw [List.take_left, ← List.drop_drop, List.drop_left, List.drop_replicate]

end Go.Proofs.YteekijpcdcpjkaaDoor
