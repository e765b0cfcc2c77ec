/-
  PLAIN: bytes as runs: arch.Pack and the reference's Ran come to the same runs.
-/
import Derived.Test.YteekijpcdcpjkaaDoorPuEq
set_option linter.unusedVariables false
set_option linter.unusedSimpArgs false
namespace Go.Proofs.YteekijpcdcpjkaaDoor
open Go Go.Ab

/-! ### runs -/
/-- a run of m bytes c so far, and what is left -/
def runGo : Nat → Int → List Int → List Int
  | m, c, [] => [(m : Int), c]
  | m, c, x :: r => if x = c ∧ m < 255 then runGo (m + 1) c r else (m : Int) :: c :: runGo 1 x r
def runs : List Int → List Int
  | [] => []
  | c :: r => runGo 1 c r

theorem runGo_end {m : Nat} {c : Int} {r : List Int} (h : m = 255 ∨ r = [] ∨ ∃ x t, r = x :: t ∧ x ≠ c) : runGo m c r = (m : Int) :: c :: runs r := by
  cases r with
  | nil => rfl
  | cons x t =>
    simp only [runGo]
    rw [if_neg]
    · rfl
    · rcases h with h | h | ⟨y, u, h, hx⟩
      · omega
      · cases h
      · cases h; exact fun h => hx h.1

theorem drop_get {xs : List Int} {i : Nat} (h : i < xs.length) : xs.drop i = xs[i] :: xs.drop (i + 1) := List.drop_eq_getElem_cons h

theorem runGo_len : ∀ (r : List Int) (m : Nat) (c : Int), (runGo m c r).length ≤ 2 * (r.length + 1) := by
  intro r
  induction r with
  | nil => intro m c; simp [runGo]
  | cons x r ih =>
    intro m c
    simp only [runGo]
    split
    · have := ih (m + 1) c; simp only [List.length_cons]; omega
    · have := ih 1 x; simp only [List.length_cons]; omega
theorem runs_len (r : List Int) : (runs r).length ≤ 2 * r.length := by
  cases r with
  | nil => simp [runs]
  | cons x r => have := runGo_len r 1 x; simp only [runs, List.length_cons]; omega

theorem pack_inner {R : Type} (N : Nat) (s : R) (k2 : (List Int × Int × Unit) → R) (b out : List Int) (i : Nat) (hb : b.length ≤ 1048576) (hi : i < b.length) (Q : R → Prop)
    (hk : ∀ m : Nat, 1 ≤ m → m ≤ 255 → i + m ≤ b.length → runGo 1 b[i] (b.drop (i + 1)) = (m : Int) :: b[i] :: runs (b.drop (i + m)) → Q (k2 (out, (m : Int), ()))) (n : Nat) (hn : 255 < n) :
    Q (iter (arch_Pack.s1 N s k2 (b, (i : Int), ())) s n (out, (1 : Int), ())) := by
  refine iter_rule (fun v => ∃ m : Nat, v = (out, (m : Int), ()) ∧ 1 ≤ m ∧ m ≤ 255 ∧ i + m ≤ b.length ∧ runGo 1 b[i] (b.drop (i + 1)) = runGo m b[i] (b.drop (i + m))) (fun v => 255 - v.2.1.toNat) Q ?_ n _ ⟨1, rfl, by omega, by omega, by omega, rfl⟩ (by simp; omega)
  rintro v again ⟨m, rfl, h1, h2, h3, h4⟩ hag
  unfold arch_Pack.s1
  simp only [decide_eq_true_eq]
  by_cases hm : m < 255
  · rw [if_pos (by omega), w64 (by omega) (by omega)]
    by_cases hlt : i + m < b.length
    · rw [if_pos (by omega), gate_pos (inR_of (by omega) (by omega)), gate_pos (inR_of (by omega) (by omega))]
      rw [bindO_of rfl]
      have ei : (i : Int) + (m : Int) = ((i + m : Nat) : Int) := by omega
      rw [ei, getI_get hlt, getI_get hi]
      by_cases hc : b[i + m] = b[i]
      · rw [if_pos (by simpa using hc), w64 (by omega) (by omega)]
        refine hag _ ⟨m + 1, by simp, by omega, by omega, by omega, ?_⟩ (by simp; omega)
        rw [h4, drop_get hlt]
        simp only [runGo]
        rw [if_pos ⟨hc, hm⟩]
        rfl
      · rw [if_neg (by simpa using hc)]
        refine hk m h1 h2 h3 ?_
        rw [h4]
        exact runGo_end (.inr (.inr ⟨_, _, drop_get hlt, hc⟩))
    · rw [if_neg (by omega)]
      rw [bindO_of rfl, if_neg (by simp)]
      refine hk m h1 h2 h3 ?_
      rw [h4]
      exact runGo_end (.inr (.inl (List.drop_eq_nil_of_le (by omega))))
  · rw [if_neg (by omega)]
    rw [bindO_of rfl, if_neg (by simp)]
    refine hk m h1 h2 h3 ?_
    rw [h4]
    exact runGo_end (.inl (by omega))

theorem pack_eq (N : Nat) (b : List Int) (hb : b.length ≤ 1048576) (hN : 1048576 < N) : arch_Pack N b = some (runs b) := by
  unfold arch_Pack
  refine iter_rule (fun v => ∃ (i : Nat) (out : List Int), v = (out, (i : Int), ()) ∧ i ≤ b.length ∧ out.length ≤ 2 * i ∧ runs b = out ++ runs (b.drop i)) (fun v => b.length - v.2.1.toNat) (fun r => r = some (runs b)) ?_ N _ ⟨0, [], rfl, Nat.zero_le _, by simp, by simp⟩ (by simp; omega)
  rintro v again ⟨i, out, rfl, hi, ho, hr⟩ hag
  unfold arch_Pack.s0
  simp only [decide_eq_true_eq]
  by_cases hlt : i < b.length
  · rw [if_pos (by omega)]
    refine pack_inner N none _ b out i hb hlt (fun r => r = some (runs b)) (fun m h1 h2 h3 h4 => ?_) N (by omega)
    simp only
    rw [gate_pos (inR_of (by omega) (by omega)), getI_get hlt, wu8 (by omega) (by omega), w64 (by omega) (by omega)]
    rw [gate_pos (room_of (by simp; omega) (by simp; omega))]
    refine hag _ ⟨i + m, out ++ [(m : Int), b[i]], by simp, h3, by simp; omega, ?_⟩ (by simp; omega)
    rw [hr, drop_get hlt]
    show out ++ runGo 1 b[i] (b.drop (i + 1)) = _
    rw [h4]
    simp
  · rw [if_neg (by omega)]
    rw [hr, List.drop_eq_nil_of_le (by omega)]
    simp [runs]

theorem archives_eq (N : Nat) (hN : 1048576 < N) : wracklaw2_archives N = some true := by
  unfold wracklaw2_archives
  rw [bindO_of (pack_eq N [7, 7, 7] (by simp) hN), bindO_of (equal_eq N _ _ (by have := runs_len [7, 7, 7]; simp at this; omega) (by have := runs_len [7, 7, 7]; simp at this; omega))]
  simp [runs, runGo]

end Go.Proofs.YteekijpcdcpjkaaDoor
