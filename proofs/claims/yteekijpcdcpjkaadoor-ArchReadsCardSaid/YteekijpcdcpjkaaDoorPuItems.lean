/-
  PLAIN: lists of entries of an archive are checked alike by the program and by the reference.
-/
import Derived.Test.YteekijpcdcpjkaaDoorPuNames
import Derived.Test.YteekijpcdcpjkaaDoorPuMapP
set_option linter.unusedVariables false
set_option linter.unusedSimpArgs false
namespace Go.Proofs.YteekijpcdcpjkaaDoor
open Go Go.Ab

abbrev Itm := List Int × List Int

theorem itm_mem {l : List Itm} {i : Nat} (h : i < l.length) : l.getD i ([], []) ∈ l := by
  rw [List.getD_eq_getElem?_getD, List.getElem?_eq_getElem h]
  exact List.getElem_mem h

/-- is the path of the i-th there before it -/
def seenB (l : List Itm) (i : Nat) (p : List Int) : Bool := (l.take i).any fun x => decide (x.1 = p)

def itmAt (l : List Itm) (i : Nat) : Int :=
  if pathB (l.getD i ([], [])).1 = true then (if 2048 < (l.getD i ([], [])).2.length then 2 else if seenB l i (l.getD i ([], [])).1 = true then 7 else 0) else 6

def ResI (l : List Itm) (r : Int) : Prop :=
  (30 < l.length ∧ r = 9) ∨ (l.length ≤ 30 ∧ ((∃ i, i < l.length ∧ (∀ j, j < i → itmAt l j = 0) ∧ itmAt l i ≠ 0 ∧ r = itmAt l i) ∨ ((∀ j, j < l.length → itmAt l j = 0) ∧ r = 0)))

theorem resI_unique {l : List Itm} {r q : Int} (h1 : ResI l r) (h2 : ResI l q) : r = q := by
  rcases h1 with ⟨a1, a2⟩ | ⟨a1, a2⟩
  · rcases h2 with ⟨b1, b2⟩ | ⟨b1, b2⟩
    · rw [a2, b2]
    · omega
  · rcases h2 with ⟨b1, b2⟩ | ⟨b1, b2⟩
    · omega
    · rcases a2 with ⟨i, i1, i2, i3, i4⟩ | ⟨i1, i2⟩
      · rcases b2 with ⟨k, k1, k2, k3, k4⟩ | ⟨k1, k2⟩
        · have : i = k := by
            rcases Nat.lt_trichotomy i k with h | h | h
            · exact absurd (k2 i h) i3
            · exact h
            · exact absurd (i2 k h) k3
          subst this
          rw [i4, k4]
        · exact absurd (k1 i i1) i3
      · rcases b2 with ⟨k, k1, k2, k3, k4⟩ | ⟨k1, k2⟩
        · exact absurd (i1 k k1) k3
        · rw [i2, k2]

theorem twiceLoop {R : Type} (N : Nat) (s : R) (k0 : (List Int × List Int × Unit) → R) (kr : (List Int × List Int × Int × Unit) → R) (l : List Itm) (p q : List Int) (hl : l.length ≤ 1048576) (Q : R → Prop)
    (h0 : (l.any fun x => decide (x.1 = p)) = false → Q (k0 (p, q, ()))) (h1 : ∀ i : Nat, (l.any fun x => decide (x.1 = p)) = true → Q (kr (p, q, (i : Int), ()))) (n : Nat) (hn : l.length < n) :
    Q (iter (arch_Check_i0_slices_ContainsFunc_i0_slices_IndexFunc.s0 N s k0 kr (l, (l.length : Int), ())) s n (p, q, (0 : Int), ())) := by
  refine iter_rule (fun v => ∃ i : Nat, v = (p, q, (i : Int), ()) ∧ i ≤ l.length ∧ ∀ j, j < i → (l.getD j ([], [])).1 ≠ p) (fun v => l.length - v.2.2.1.toNat) Q ?_ n _ ⟨0, rfl, Nat.zero_le _, fun j hj => absurd hj (Nat.not_lt_zero _)⟩ (by simp only; omega)
  rintro v again ⟨i, rfl, hi, hall⟩ hag
  unfold arch_Check_i0_slices_ContainsFunc_i0_slices_IndexFunc.s0
  simp only [decide_eq_true_eq]
  by_cases hlt : i < l.length
  · rw [if_pos (by omega), gate_pos (inR_of (by omega) (by omega)), getI_nat]
    by_cases h : (l.getD i ([], [])).1 = p
    · rw [if_pos h]
      refine h1 i ?_
      rw [List.any_eq_true]
      exact ⟨_, itm_mem hlt, by simpa using h⟩
    · rw [if_neg h, w64 (by omega) (by omega)]
      refine hag _ ⟨i + 1, by simp, by omega, fun j hj => ?_⟩ (by simp only; omega)
      rcases Nat.lt_or_eq_of_le (Nat.le_of_lt_succ hj) with h2 | h2
      · exact hall j h2
      · subst h2; exact h
  · rw [if_neg (by omega)]
    refine h0 ?_
    rw [List.any_eq_false]
    intro e he
    obtain ⟨j, hj, rfl⟩ := List.getElem_of_mem he
    have := hall j (by omega)
    rw [List.getD_eq_getElem?_getD, List.getElem?_eq_getElem hj] at this
    simpa using this

theorem icut_take (l : List Itm) (i : Nat) : cut l (0 : Int) (i : Int) = l.take i := by
  have := cut_nat l 0 i (Nat.zero_le _)
  simpa using this

theorem icheck_res (N : Nat) (l : List Itm) (hp : ∀ e ∈ l, e.1.length ≤ 1048576) (hN : 1048577 < N) : ∃ r, arch_Check N l = some r ∧ ResI l r := by
  unfold arch_Check
  simp only [decide_eq_true_eq]
  by_cases h30 : 30 < l.length
  · rw [if_pos (by omega)]
    exact ⟨9, rfl, Or.inl ⟨h30, rfl⟩⟩
  · rw [if_neg (by omega)]
    refine iter_rule (fun v => ∃ i : Nat, v = ((i : Int), ()) ∧ i ≤ l.length ∧ ∀ j, j < i → itmAt l j = 0) (fun v => l.length - v.1.toNat)
      (fun o => ∃ r, o = some r ∧ ResI l r) ?_ N _ ⟨0, rfl, Nat.zero_le _, fun j hj => absurd hj (Nat.not_lt_zero _)⟩ (by simp only; omega)
    rintro v again ⟨i, rfl, hi, hall⟩ hag
    unfold arch_Check.s0
    simp only [decide_eq_true_eq]
    by_cases hlt : i < l.length
    · have stop : ∀ r : Int, itmAt l i = r → r ≠ 0 → ∃ q, (some r : Option Int) = some q ∧ ResI l q := fun r h1 h2 => ⟨r, rfl, Or.inr ⟨by omega, Or.inl ⟨i, hlt, hall, by rw [h1]; exact h2, h1.symm⟩⟩⟩
      have go : itmAt l i = 0 → ∃ q, again ((i : Int) + 1, ()) = some q ∧ ResI l q := fun h => hag _ ⟨i + 1, by simp, by omega, fun j hj => by
        rcases Nat.lt_or_eq_of_le (Nat.le_of_lt_succ hj) with h2 | h2
        · exact hall j h2
        · subst h2; exact h⟩ (by simp only; omega)
      rw [if_pos (by omega), gate_pos (inR_of (by omega) (by omega)), getI_nat, bindO_of (path_eq N _ (hp _ (itm_mem hlt)) hN)]
      by_cases hpb : pathB (l.getD i ([], [])).1 = true
      · rw [if_pos hpb, if_neg (by decide)]
        by_cases hb : 2048 < (l.getD i ([], [])).2.length
        · rw [if_pos (by omega)]
          exact stop 2 (by unfold itmAt; rw [if_pos hpb, if_pos hb]) (by decide)
        · rw [if_neg (by omega), gate_pos (bounds_of (by omega) (by omega) (by omega)), icut_take]
          refine twiceLoop N none _ _ (l.take i) _ _ (by rw [List.length_take]; omega) (fun o => ∃ q, o = some q ∧ ResI l q) (fun hno => ?_) (fun k hyes => ?_) N (by rw [List.length_take]; omega)
          · rw [if_neg (by decide), w64 (by omega) (by omega)]
            exact go (by unfold itmAt; rw [if_pos hpb, if_neg hb, if_neg (by unfold seenB; rw [hno]; decide)])
          · simp only
            rw [if_pos (by omega)]
            have hyes : seenB l i (l.getD i ([], [])).1 = true := hyes
            exact stop 7 (by unfold itmAt; rw [if_pos hpb, if_neg hb, if_pos hyes]) (by decide)
      · rw [if_neg hpb, if_pos (by decide)]
        exact stop 6 (by unfold itmAt; rw [if_neg hpb]) (by decide)
    · rw [if_neg (by omega)]
      exact ⟨0, rfl, Or.inr ⟨by omega, Or.inr ⟨fun j hj => hall j (by omega), rfl⟩⟩⟩

theorem ierr_res (N : Nat) (l : List Itm) (hp : ∀ e ∈ l, e.1.length ≤ 1048576) (hN : 1048577 < N) : ∃ r, wrackref2_ItemsErr N l = some r ∧ ResI l r := by
  unfold wrackref2_ItemsErr
  simp only [decide_eq_true_eq]
  by_cases h30 : 30 < l.length
  · rw [if_pos (by omega)]
    exact ⟨9, rfl, Or.inl ⟨h30, rfl⟩⟩
  · rw [if_neg (by omega)]
    refine iter_rule (fun v => ∃ (seen : List (List Int × Bool)) (i : Nat), v = (seen, (i : Int), ()) ∧ i ≤ l.length ∧ (∀ j, j < i → itmAt l j = 0) ∧ ∀ d, (mapGet (k := .str) (v := .bool) seen d).getD false = seenB l i d) (fun v => l.length - v.2.1.toNat)
      (fun o => ∃ r, o = some r ∧ ResI l r) ?_ N _ ⟨[], 0, rfl, Nat.zero_le _, fun j hj => absurd hj (Nat.not_lt_zero _), fun d => rfl⟩ (by simp only; omega)
    rintro v again ⟨seen, i, rfl, hi, hall, hmap⟩ hag
    unfold wrackref2_ItemsErr.s0
    simp only [decide_eq_true_eq]
    by_cases hlt : i < l.length
    · have stop : ∀ r : Int, itmAt l i = r → r ≠ 0 → ∃ q, (some r : Option Int) = some q ∧ ResI l q := fun r h1 h2 => ⟨r, rfl, Or.inr ⟨by omega, Or.inl ⟨i, hlt, hall, by rw [h1]; exact h2, h1.symm⟩⟩⟩
      have go : itmAt l i = 0 → ∃ q, again (mapPut (k := .str) (v := .bool) seen (l.getD i ([], [])).1 true, (i : Int) + 1, ()) = some q ∧ ResI l q := fun h => hag _ ⟨_, i + 1, rfl, by omega, fun j hj => by
          rcases Nat.lt_or_eq_of_le (Nat.le_of_lt_succ hj) with h2 | h2
          · exact hall j h2
          · subst h2; exact h, fun d => by
          rw [mapGet_put]
          have hs : seenB l (i + 1) d = (seenB l i d || decide ((l.getD i ([], [])).1 = d)) := by
            unfold seenB
            rw [List.take_add_one, List.any_append, List.getElem?_eq_getElem hlt, List.getD_eq_getElem?_getD, List.getElem?_eq_getElem hlt]
            simp
          rw [hs, ← hmap d]
          by_cases hd : d = (l.getD i ([], [])).1
          · rw [if_pos hd, decide_eq_true hd.symm]; simp
          · rw [if_neg hd, decide_eq_false (fun e => hd e.symm)]; simp⟩ (by simp only; omega)
      rw [if_pos (by omega), gate_pos (inR_of (by omega) (by omega)), getI_nat, bindO_of (way_eq N _ (hp _ (itm_mem hlt)) hN)]
      by_cases hpb : pathB (l.getD i ([], [])).1 = true
      · rw [if_neg (by rw [hpb]; decide)]
        by_cases hb : 2048 < (l.getD i ([], [])).2.length
        · rw [if_pos (by omega)]
          exact stop 2 (by unfold itmAt; rw [if_pos hpb, if_pos hb]) (by decide)
        · rw [if_neg (by omega)]
          have hm := hmap (l.getD i ([], [])).1
          cases hs : seenB l i (l.getD i ([], [])).1 with
          | true =>
            rw [hs] at hm
            rw [if_pos hm]
            exact stop 7 (by unfold itmAt; rw [if_pos hpb, if_neg hb, if_pos hs]) (by decide)
          | false =>
            rw [hs] at hm
            rw [if_neg (by intro e; rw [hm] at e; cases e), w64 (by omega) (by omega)]
            exact go (by unfold itmAt; rw [if_pos hpb, if_neg hb, if_neg (by rw [hs]; decide)])
      · rw [if_pos (by simpa using hpb)]
        exact stop 6 (by unfold itmAt; rw [if_neg hpb]) (by decide)
    · rw [if_neg (by omega)]
      exact ⟨0, rfl, Or.inr ⟨by omega, Or.inr ⟨fun j hj => hall j (by omega), rfl⟩⟩⟩

/-- both report the same; where nothing is reported there are at most 30, of at most 2048 bytes -/
theorem icheck_same (N : Nat) (l : List Itm) (hp : ∀ e ∈ l, e.1.length ≤ 1048576) (hN : 1048577 < N) : ∃ r, arch_Check N l = some r ∧ wrackref2_ItemsErr N l = some r ∧ (r = 0 → l.length ≤ 30 ∧ ∀ e ∈ l, e.2.length ≤ 2048) := by
  obtain ⟨r, h1, h2⟩ := icheck_res N l hp hN
  obtain ⟨q, h3, h4⟩ := ierr_res N l hp hN
  have := resI_unique h2 h4
  subst this
  refine ⟨r, h1, h3, fun hr => ?_⟩
  subst hr
  rcases h2 with ⟨_, h⟩ | ⟨h5, h⟩
  · exact absurd h (by decide)
  · rcases h with ⟨i, _, _, h6, h7⟩ | ⟨h6, _⟩
    · exact absurd h7.symm h6
    · refine ⟨h5, fun e he => ?_⟩
      obtain ⟨j, hj, rfl⟩ := List.getElem_of_mem he
      have := h6 j hj
      unfold itmAt at this
      rw [List.getD_eq_getElem?_getD, List.getElem?_eq_getElem hj] at this
      simp only [Option.getD_some] at this
      split at this
      · split at this
        · cases this
        · omega
      · cases this

end Go.Proofs.YteekijpcdcpjkaaDoor
