/-
  PLAIN: the squares of a picture: which square a dot lies in; sums over a square, dot by dot.
-/
import Derived.Test.YteekijpcdcpjkaaAbPlain
set_option linter.unusedVariables false
set_option linter.unusedSimpArgs false
set_option linter.unusedSectionVars false
namespace Go.Proofs.Yteekijpcdcpjkaa
open Go Go.Ab

/-- how many squares of s dots w dots take -/
def across (w s : Nat) : Nat := (w - 1) / s + 1
/-- the square of a dot -/
def sq (w s : Nat) (i : Nat) : Nat := i / w / s * across w s + i % w / s
/-- a sum over the first m dots that lie in the square k -/
def acc (w s : Nat) (f : Nat → Int) (k : Nat) : Nat → Int
  | 0 => 0
  | m + 1 => acc w s f k m + (if sq w s m = k then f m else 0)

theorem acc_succ (w s : Nat) (f : Nat → Int) (k m : Nat) : acc w s f k (m + 1) = acc w s f k m + (if sq w s m = k then f m else 0) := rfl

theorem acc_same (w s : Nat) (f : Nat → Int) (k a : Nat) : ∀ d, (∀ i, a ≤ i → i < a + d → sq w s i = k → f i = 0) → acc w s f k (a + d) = acc w s f k a := by
  intro d
  induction d with
  | zero => intro _; rfl
  | succ d ih =>
    intro h
    rw [← Nat.add_assoc, acc_succ, ih (fun i h1 h2 => h i h1 (by omega))]
    by_cases hk : sq w s (a + d) = k
    · rw [if_pos hk, h (a + d) (by omega) (by omega) hk]; omega
    · rw [if_neg hk]; omega

theorem acc_const (w s : Nat) (f : Nat → Int) (k a b : Nat) (hab : a ≤ b) (h : ∀ i, a ≤ i → i < b → sq w s i = k → f i = 0) : acc w s f k b = acc w s f k a := by
  obtain ⟨d, rfl⟩ := Nat.exists_eq_add_of_le hab
  exact acc_same w s f k a d h

theorem acc_bound (w s : Nat) (f : Nat → Int) (k : Nat) (B : Int) (hB : 0 ≤ B) (hf : ∀ i, 0 ≤ f i ∧ f i ≤ B) : ∀ m, 0 ≤ acc w s f k m ∧ acc w s f k m ≤ B * m := by
  intro m
  induction m with
  | zero => simp [acc]
  | succ m ih =>
    rw [acc_succ]
    have e : B * ((m + 1 : Nat) : Int) = B * (m : Int) + B := by rw [Int.natCast_add, Int.mul_add]; simp
    rw [e]
    have := hf m
    split <;> omega

theorem acc_mono (w s : Nat) (f : Nat → Int) (k : Nat) (hf : ∀ i, 0 ≤ f i) : ∀ a d, acc w s f k a ≤ acc w s f k (a + d) := by
  intro a d
  induction d with
  | zero => exact Int.le_refl _
  | succ d ih =>
    rw [← Nat.add_assoc, acc_succ]
    have := hf (a + d)
    split <;> omega

section
variable {w s : Nat} (hw : 1 ≤ w) (hs : 1 ≤ s)
include hw hs

theorem across_gt {u : Nat} (hu : u < w) : u / s < across w s := by
  unfold across
  have : u / s ≤ (w - 1) / s := Nat.div_le_div_right (by omega)
  omega

theorem across_up : w ≤ across w s * s := by
  unfold across
  have h1 := Nat.div_add_mod (w - 1) s
  have h2 := Nat.mod_lt (w - 1) (show 0 < s by omega)
  rw [Nat.add_mul, Nat.mul_comm ((w - 1) / s) s]
  omega

theorem across_in {kx : Nat} (h : kx < across w s) : kx * s < w := by
  unfold across at h
  have h1 : kx ≤ (w - 1) / s := by omega
  have h2 : kx * s ≤ (w - 1) / s * s := Nat.mul_le_mul_right _ h1
  have h3 := Nat.div_mul_le_self (w - 1) s
  omega

theorem sq_at {v u : Nat} (hu : u < w) : sq w s (v * w + u) = v / s * across w s + u / s := by
  unfold sq
  have h1 : (v * w + u) / w = v := by
    rw [Nat.mul_comm, Nat.mul_add_div (by omega), Nat.div_eq_of_lt hu]; rfl
  have h2 : (v * w + u) % w = u := by
    rw [Nat.mul_comm, Nat.mul_add_mod, Nat.mod_eq_of_lt hu]
  rw [h1, h2]

theorem sq_iff {v u ky kx : Nat} (hu : u < w) (hk : kx < across w s) : sq w s (v * w + u) = ky * across w s + kx ↔ v / s = ky ∧ u / s = kx := by
  rw [sq_at hw hs hu]
  have hu' := across_gt hw hs hu
  constructor
  · intro h
    have h1 : (v / s * across w s + u / s) / across w s = v / s := by
      rw [Nat.mul_comm, Nat.mul_add_div (by omega), Nat.div_eq_of_lt hu']; rfl
    have h2 : (ky * across w s + kx) / across w s = ky := by
      rw [Nat.mul_comm, Nat.mul_add_div (by omega), Nat.div_eq_of_lt hk]; rfl
    rw [h, h2] at h1
    refine ⟨h1.symm, ?_⟩
    rw [← h1] at h
    omega
  · rintro ⟨rfl, rfl⟩; rfl

theorem dot_at (i : Nat) : i = i / w * w + i % w ∧ i % w < w := by
  have h1 := Nat.div_add_mod i w
  rw [Nat.mul_comm] at h1
  exact ⟨h1.symm, Nat.mod_lt _ (by omega)⟩

theorem sq_of {i ky kx : Nat} (hk : kx < across w s) (h : sq w s i = ky * across w s + kx) : i / w / s = ky ∧ i % w / s = kx := by
  obtain ⟨e, hu⟩ := dot_at hw hs i
  rw [e] at h
  exact (sq_iff hw hs hu hk).1 h

theorem div_box {a q : Nat} (h : a / s = q) : q * s ≤ a ∧ a < q * s + s := by
  subst h
  have h1 := Nat.div_add_mod a s
  have h2 := Nat.mod_lt a (show 0 < s by omega)
  rw [Nat.mul_comm] at h1
  omega

theorem box_div {a q : Nat} (h1 : q * s ≤ a) (h2 : a < q * s + s) : a / s = q := by
  have h3 : q ≤ a / s := (Nat.le_div_iff_mul_le (by omega)).2 h1
  have h4 : a / s < q + 1 := (Nat.div_lt_iff_lt_mul (by omega)).2 (by rw [Nat.add_mul]; omega)
  omega

/-- no dot of a square comes before its first one -/
theorem sq_before {i ky kx : Nat} (hk : kx < across w s) (hi : i < ky * s * w + kx * s) : sq w s i ≠ ky * across w s + kx := by
  intro h
  obtain ⟨h1, h2⟩ := sq_of hw hs hk h
  obtain ⟨e, hu⟩ := dot_at hw hs i
  have b1 := (div_box hw hs h1).1
  have b2 := (div_box hw hs h2).1
  have : ky * s * w ≤ i / w * w := Nat.mul_le_mul_right _ b1
  omega

/-- none between two rows of it -/
theorem sq_between {i v ky kx : Nat} (hk : kx < across w s) (h1 : v * w + min (kx * s + s) w ≤ i) (h2 : i < (v + 1) * w + kx * s) : sq w s i ≠ ky * across w s + kx := by
  intro h
  obtain ⟨_, g2⟩ := sq_of hw hs hk h
  obtain ⟨e, hu⟩ := dot_at hw hs i
  have b := div_box hw hs g2
  have hx := across_in hw hs hk
  rw [Nat.add_mul] at h2
  rcases Nat.lt_or_ge (i / w) (v + 1) with hv | hv
  · have : i / w * w ≤ v * w := Nat.mul_le_mul_right _ (by omega)
    omega
  · have : (v + 1) * w ≤ i / w * w := Nat.mul_le_mul_right _ hv
    rw [Nat.add_mul] at this
    omega

/-- none behind its last row -/
theorem sq_behind {i ky kx : Nat} (hk : kx < across w s) (h1 : (ky * s + s) * w ≤ i) : sq w s i ≠ ky * across w s + kx := by
  intro h
  obtain ⟨g1, _⟩ := sq_of hw hs hk h
  have b := div_box hw hs g1
  have : ky * s + s ≤ i / w := (Nat.le_div_iff_mul_le (by omega)).2 h1
  omega

/-- every square of dots that are there is one of the picture's -/
theorem sq_lt {i h : Nat} (hh : 1 ≤ h) (hi : i < w * h) : sq w s i < across w s * across h s := by
  obtain ⟨e, hu⟩ := dot_at hw hs i
  have hv : i / w < h := (Nat.div_lt_iff_lt_mul (by omega)).2 (by rw [Nat.mul_comm]; exact hi)
  have h1 : i / w / s < across h s := across_gt hh hs hv
  have h2 := across_gt hw hs hu
  unfold sq
  have h3 : (i / w / s + 1) * across w s ≤ across h s * across w s := Nat.mul_le_mul_right _ h1
  rw [Nat.add_mul, Nat.mul_comm (across h s)] at h3
  omega
end

end Go.Proofs.Yteekijpcdcpjkaa
