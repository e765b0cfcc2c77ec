/-
  PLAIN LAW: FsTrees.
-/
import Derived.Test.YthkpfkjbflcpnaaDoorPuTrees
set_option linter.unusedVariables false
set_option linter.unusedSimpArgs false
namespace Go.Proofs.YthkpfkjbflcpnaaDoor
open Go Go.Ab

theorem idxLoop {R : Type} (N : Nat) (s : R) (k0 : (List Int × List Int × Bool × Int × List Int × Unit) → R) (kr : (List Int × List Int × Bool × Int × List Int × Int × Unit) → R) (t : List Ent) (path a1 : List Int) (a2 : Bool) (a3 : Int) (a4 : List Int)
    (ht : t.length ≤ 1048576) (Q : R → Prop) (h0 : (∀ j, j < t.length → (t.getD j ([], (false, ((0 : Int), [])))).1 ≠ path) → Q (k0 (path, a1, a2, a3, a4, ())))
    (h1 : ∀ i, i < t.length → (∀ j, j < i → (t.getD j ([], (false, ((0 : Int), [])))).1 ≠ path) → (t.getD i ([], (false, ((0 : Int), [])))).1 = path → Q (kr (path, a1, a2, a3, a4, (i : Int), ()))) (n : Nat) (hn : t.length < n) :
    Q (iter (wracklaw2_FsTrees_i0_slices_IndexFunc.s0 N s k0 kr (t, (t.length : Int), ())) s n (path, a1, a2, a3, a4, (0 : Int), ())) := by
  refine iter_rule (fun v => ∃ i : Nat, v = (path, a1, a2, a3, a4, (i : Int), ()) ∧ i ≤ t.length ∧ ∀ j, j < i → (t.getD j ([], (false, ((0 : Int), [])))).1 ≠ path) (fun v => t.length - v.2.2.2.2.2.1.toNat) Q ?_ n _ ⟨0, rfl, Nat.zero_le _, fun j hj => absurd hj (Nat.not_lt_zero _)⟩ (by simp only; omega)
  rintro v again ⟨i, rfl, hi, hall⟩ hag
  unfold wracklaw2_FsTrees_i0_slices_IndexFunc.s0
  simp only [decide_eq_true_eq]
  by_cases hlt : i < t.length
  · rw [if_pos (by omega), gate_pos (inR_of (by omega) (by omega)), getI_nat]
    by_cases h : (t.getD i ([], (false, ((0 : Int), [])))).1 = path
    · rw [if_pos h]
      exact h1 i hlt hall h
    · rw [if_neg h, w64 (by omega) (by omega)]
      refine hag _ ⟨i + 1, by simp, by omega, fun j hj => ?_⟩ (by simp only; omega)
      rcases Nat.lt_or_eq_of_le (Nat.le_of_lt_succ hj) with h2 | h2
      · exact hall j h2
      · subst h2; exact h
  · rw [if_neg (by omega)]
    exact h0 fun j hj => hall j (by omega)

theorem fsTrees_true (N : Nat) (a b : List Ent) (path : List Int) (ha : a.length ≤ 1048576) (hd : ∀ e ∈ a, e.2.2.2.length ≤ 1048576) (hp : ∀ e ∈ a, e.1.length ≤ 1048576) (hN : 1048577 < N) :
    wracklaw2_FsTrees N a b path = some true := by
  obtain ⟨r, hc1, hc2⟩ := check_same N a hp hN
  have h1 : ([([], (false, ((0 : Int), [])))] : List Ent).length ≤ 1048576 := by decide
  unfold wracklaw2_FsTrees
  rcases get_eq N a path ha hd hN with ⟨i, hi, hfirst, heq, hg⟩ | ⟨hnone, hg⟩
  · rw [bindO_of hg]
    refine idxLoop N none _ _ a path _ _ _ _ ha (fun o => o = some true) (fun h => absurd heq (h i hi)) (fun k hk hkf hke => ?_) N (by omega)
    have : k = i := by
      rcases Nat.lt_trichotomy k i with h | h | h
      · exact absurd hke (hfirst k h)
      · exact h
      · exact absurd heq (hkf i h)
    subst this
    have hcut : cut a (k : Int) ((k : Int) + 1) = [a.getD k ([], (false, ((0 : Int), [])))] := by
      have := cut_nat a k (k + 1) (by omega)
      rw [show ((k + 1 : Nat) : Int) = (k : Int) + 1 by omega] at this
      rw [this, List.getD_eq_getElem?_getD, List.getElem?_eq_getElem hk, Nat.add_sub_cancel_left, List.drop_eq_getElem_cons hk]
      rfl
    simp only [decide_eq_true_eq]
    rw [if_pos (by omega), w64 (by omega) (by omega), gate_pos (bounds_of (by omega) (by omega) (by omega)), hcut]
    simp only [bindO]
    rw [paths_true N hN]
    simp only [if_true]
    rw [hc1, hc2]
    simp only [if_true]
    rw [if_pos (by simp)]
    have e1 : wrackref2_Equal N [((a.getD k ([], (false, ((0 : Int), [])))).1, ((a.getD k ([], (false, ((0 : Int), [])))).2.1, ((a.getD k ([], (false, ((0 : Int), [])))).2.2.1, (a.getD k ([], (false, ((0 : Int), [])))).2.2.2)))] [a.getD k ([], (false, ((0 : Int), [])))] = some true := by
      rw [equalT_eq N _ _ (by simp) hN]
      simp
    rw [e1]
    simp only [if_true]
    rw [same_eq N a b ha hd hN, equalT_eq N a b ha hN]
    simp only [beq_self_eq_true, if_true]
    rw [copy_eq N a ha hd hN]
    simp only
    rw [equalT_eq N a a ha hN]
    simp
  · rw [bindO_of hg]
    refine idxLoop N none _ _ a path _ _ _ _ ha (fun o => o = some true) (fun h => ?_) (fun k hk hkf hke => absurd hke (hnone k hk)) N (by omega)
    simp only [decide_eq_true_eq]
    rw [if_neg (by omega)]
    simp only [bindO]
    rw [paths_true N hN]
    simp only [if_true]
    rw [hc1, hc2]
    simp only [if_true]
    rw [if_pos (by decide)]
    have e1 : wrackref2_Equal N [([], (false, ((0 : Int), [])))] [([], (false, ((0 : Int), [])))] = some true := by
      rw [equalT_eq N _ _ (by simp) hN]
      simp
    rw [e1]
    simp only [if_true]
    rw [same_eq N a b ha hd hN, equalT_eq N a b ha hN]
    simp only [beq_self_eq_true, if_true]
    rw [copy_eq N a ha hd hN]
    simp only
    rw [equalT_eq N a a ha hN]
    simp

end Go.Proofs.YthkpfkjbflcpnaaDoor
