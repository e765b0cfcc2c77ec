/-
  PLAIN LEMMAS on the words that printed functions use: wraps, bounds, reads, rounds.
-/
import Derived.Test.YtnklmlnkiepdiaaGreatDoorAbDen
set_option linter.unusedVariables false
namespace Go.Ab

theorem w64 {x : Int} (h1 : -9223372036854775808 ≤ x) (h2 : x ≤ 9223372036854775807) : IntKind.wrap .i64 x = x := by
  simp [IntKind.wrap, IntKind.bits, IntKind.signed]
  omega
theorem wu8 {x : Int} (h1 : 0 ≤ x) (h2 : x ≤ 255) : IntKind.wrap .u8 x = x := by
  simp only [IntKind.wrap, IntKind.bits, IntKind.signed]
  simp
  omega
theorem wu32 {x : Int} (h1 : 0 ≤ x) (h2 : x ≤ 4294967295) : IntKind.wrap .u32 x = x := by
  simp only [IntKind.wrap, IntKind.bits, IntKind.signed]
  simp
  omega
theorem wu64 {x : Int} (h1 : 0 ≤ x) (h2 : x ≤ 18446744073709551615) : IntKind.wrap .u64 x = x := by
  simp only [IntKind.wrap, IntKind.bits, IntKind.signed]
  simp
  omega
theorem wu8_mod (x : Int) : IntKind.wrap .u8 x = x % 256 := by
  simp only [IntKind.wrap, IntKind.bits, IntKind.signed]
  simp
theorem wu32_mod (x : Int) : IntKind.wrap .u32 x = x % 4294967296 := by
  simp only [IntKind.wrap, IntKind.bits, IntKind.signed]
  simp
theorem wu64_mod (x : Int) : IntKind.wrap .u64 x = x % 18446744073709551616 := by
  simp only [IntKind.wrap, IntKind.bits, IntKind.signed]
  simp
theorem wi64_bd {x : Int} (h : IntKind.wrap .i64 x = x) : -9223372036854775808 ≤ x ∧ x ≤ 9223372036854775807 := by
  simp [IntKind.wrap, IntKind.bits, IntKind.signed] at h
  omega
theorem wu8_bd {x : Int} (h : IntKind.wrap .u8 x = x) : 0 ≤ x ∧ x < 256 := by
  rw [wu8_mod] at h
  omega

theorem gate_pos {R : Type} {b : Bool} {k s : R} (h : b = true) : gate b k s = k := by subst h; rfl
theorem gate_neg {R : Type} {b : Bool} {k s : R} (h : b = false) : gate b k s = s := by subst h; rfl
theorem inR_iff {i n : Int} : inR i n = true ↔ 0 ≤ i ∧ i < n := by simp [inR]
theorem inR_of {i n : Int} (h1 : 0 ≤ i) (h2 : i < n) : inR i n = true := by simp [inR, h1, h2]
theorem bounds_of {n l h : Int} (h1 : 0 ≤ l) (h2 : l ≤ h) (h3 : h ≤ n) : bounds n l h = true := by simp [bounds, h1, h2, h3]
theorem room_of {n b : Nat} (h : n * b ≤ 140737488355328) (h' : n ≤ 140737488355328) : roomFor n b = true := by simp [roomFor, ROOM, h, h']

theorem getI_nat {α : Type} (d : α) (xs : List α) (i : Nat) : getI d xs (i : Int) = xs.getD i d := by simp [getI]
theorem getI_get {α : Type} {d : α} {xs : List α} {i : Nat} (h : i < xs.length) : getI d xs (i : Int) = xs[i] := by simp [getI, h]
theorem cut_nat {α : Type} (xs : List α) (l h : Nat) (hl : l ≤ h) : cut xs (l : Int) (h : Int) = (xs.drop l).take (h - l) := by
  unfold cut
  have e : ((h : Int) - (l : Int)).toNat = h - l := by omega
  rw [e]; simp
theorem cut_all {α : Type} (xs : List α) : cut xs 0 (xs.length : Int) = xs := by simp [cut]

/-- ROUNDS: an invariant, a measure, what is to be true of what comes. -/
theorem iter_rule {V R : Type} {step : (V → R) → V → R} {s : R} (I : V → Prop) (μ : V → Nat) (Q : R → Prop)
    (h : ∀ v again, I v → (∀ v', I v' → μ v' < μ v → Q (again v')) → Q (step again v)) : ∀ n v, I v → μ v < n → Q (iter step s n v) := by
  intro n
  induction n with
  | zero => intro v _ hm; exact absurd hm (Nat.not_lt_zero _)
  | succ n ih => intro v hv hm; exact h v _ hv fun v' hv' hm' => ih v' hv' (by omega)

theorem iter_eq {V R : Type} (step : (V → R) → V → R) (s : R) (n : Nat) (v : V) : iter step s (n + 1) v = step (iter step s n) v := rfl

theorem bindO_of {α R : Type} {o : Option α} {a : α} {k : α → R} {s : R} (h : o = some a) : bindO o k s = k a := by subst h; rfl

/-! ### bits -/
theorem bitAnd_mask32 {x : Int} (h1 : 0 ≤ x) (h2 : x < 18446744073709551616) : bitAnd .u64 x 4294967295 = x % 4294967296 := by
  obtain ⟨n, rfl⟩ := Int.eq_ofNat_of_zero_le h1
  unfold bitAnd
  have e : (BitVec.ofInt (IntKind.bits .u64) (n : Int) &&& BitVec.ofInt (IntKind.bits .u64) 4294967295).toNat = n % 4294967296 := by
    show (BitVec.ofInt 64 (n : Int) &&& BitVec.ofInt 64 4294967295).toNat = n % 4294967296
    rw [BitVec.toNat_and]
    have a : (BitVec.ofInt 64 (n : Int)).toNat = n := by simp; omega
    have b : (BitVec.ofInt 64 4294967295).toNat = 2 ^ 32 - 1 := by decide
    rw [a, b, Nat.and_two_pow_sub_one_eq_mod]
  rw [e, wu64 (by omega) (by omega)]
  omega
theorem shrI_nat (k : IntKind) {x : Int} (n : Nat) (hn : n ≤ k.bits) : shrI k x (n : Int) = x / 2 ^ n := by
  unfold shrI
  simp only [Int.toNat_natCast, Nat.min_eq_left hn]
  rw [Int.fdiv_eq_ediv_of_nonneg _ (Int.pow_nonneg (by decide))]

end Go.Ab
