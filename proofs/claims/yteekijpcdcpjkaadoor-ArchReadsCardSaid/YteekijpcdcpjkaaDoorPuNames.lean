/-
  PLAIN: names and paths, as the program and the reference read them.
-/
import Derived.Test.YteekijpcdcpjkaaDoorAbPlain
import Derived.Test.YteekijpcdcpjkaaDoorPu
set_option linter.unusedVariables false
set_option linter.unusedSimpArgs false
namespace Go.Proofs.YteekijpcdcpjkaaDoor
open Go Go.Ab

/-! ### cutting and joining -/
theorem splitI_ne (c : Int) : ∀ l, splitI c l ≠ [] := by
  intro l
  cases l with
  | nil => simp [splitI]
  | cons x r =>
    simp only [splitI]
    split
    · simp
    · split <;> simp

theorem splitI_free (c : Int) : ∀ l : List Int, c ∉ l → splitI c l = [l] := by
  intro l
  induction l with
  | nil => intro _; rfl
  | cons x r ih =>
    intro h
    simp only [List.mem_cons, not_or] at h
    simp only [splitI]
    rw [if_neg (fun e => h.1 e.symm), ih h.2]

theorem splitI_app (c : Int) (b : List Int) : ∀ a : List Int, splitI c (a ++ c :: b) = splitI c a ++ splitI c b := by
  intro a
  induction a with
  | nil => simp [splitI]
  | cons x r ih =>
    simp only [List.cons_append, splitI, ih]
    by_cases h : x = c
    · rw [if_pos h, if_pos h]; rfl
    · rw [if_neg h, if_neg h]
      cases hs : splitI c r with
      | nil => exact absurd hs (splitI_ne c r)
      | cons p q => rfl

theorem joinI_cons (sep x : List Int) (y : List Int) (r : List (List Int)) : joinI sep (x :: y :: r) = x ++ (sep ++ joinI sep (y :: r)) := by
  simp [joinI, List.intercalate]

theorem join_split (c : Int) : ∀ a : List Int, joinI [c] (splitI c a) = a := by
  intro a
  induction a with
  | nil => simp [splitI, joinI, List.intercalate]
  | cons x r ih =>
    simp only [splitI]
    cases hs : splitI c r with
    | nil => exact absurd hs (splitI_ne c r)
    | cons p q =>
      rw [hs] at ih
      by_cases h : x = c
      · subst h
        rw [if_pos rfl, joinI_cons, ih]
        rfl
      · rw [if_neg h]
        simp only
        cases q with
        | nil =>
          simp only [joinI, List.intercalate, List.intersperse, List.flatten_cons, List.flatten_nil, List.append_nil] at ih ⊢
          rw [ih]
        | cons p' q' =>
          rw [joinI_cons] at ih ⊢
          rw [List.cons_append, ih]

/-! ### names -/
def nameCh (x : Int) : Bool := decide (97 ≤ x ∧ x ≤ 122) || decide (48 ≤ x ∧ x ≤ 57) || decide (x = 45)
def nameB (s : List Int) : Bool := match s with
  | [] => false
  | x :: r => decide (s.length ≤ 12) && (decide (97 ≤ x ∧ x ≤ 122) && s.all nameCh)

theorem split_eq (N : Nat) (s : List Int) (hs : s.length ≤ 1048576) : strings_Split N s [47] = some (splitI 47 s) := by
  unfold strings_Split
  have : genSplitF s [47] 0 (-1) = some (splitI 47 s) := by
    simp only [genSplitF]
    rw [if_pos ⟨trivial, trivial, by omega⟩]
  rw [bindO_of this]

theorem named_eq (N : Nat) (s : List Int) (hs : s.length ≤ 1048576) (hN : 1048577 < N) : fs_Named N s = some (nameB s) := by
  unfold fs_Named
  cases s with
  | nil => rfl
  | cons x r =>
    have e0 : getI 0 (x :: r) (0 : Int) = x := rfl
    rw [if_neg (by simp)]
    by_cases hl : (x :: r).length ≤ 12
    · rw [if_neg (by simp only [decide_eq_true_eq]; omega), gate_pos (inR_of (by omega) (by simp)), gate_pos (inR_of (by omega) (by simp)), e0]
      simp only [decide_eq_true_eq]
      by_cases h1 : x < 97
      · rw [if_pos h1]
        have : nameB (x :: r) = false := by
          simp only [nameB]
          have : decide (97 ≤ x ∧ x ≤ 122) = false := by simp; omega
          rw [this]; simp
        rw [this]; rfl
      · rw [if_neg h1]
        by_cases h2 : x > 122
        · have : nameB (x :: r) = false := by
            simp only [nameB]
            have : decide (97 ≤ x ∧ x ≤ 122) = false := by simp; omega
            rw [this]; simp
          rw [this]
          simp [bindO, h2]
        · have hx : decide (97 ≤ x ∧ x ≤ 122) = true := by simp; omega
          have hnb : nameB (x :: r) = (x :: r).all nameCh := by
            simp only [nameB]
            rw [hx]
            simp only [Bool.true_and]
            rw [show decide ((x :: r).length ≤ 12) = true by simpa using hl]
            simp
          rw [hnb]
          simp only [bindO, h2, decide_false]
          rw [if_neg (by decide)]
          generalize hy : x :: r = y at *
          refine iter_rule (fun v => ∃ i : Nat, v = ((i : Int), ()) ∧ i ≤ y.length ∧ ∀ j : Nat, j < i → nameCh (y.getD j 0) = true) (fun v => y.length - v.1.toNat)
            (fun o => o = some (y.all nameCh)) ?_ N _ ⟨0, rfl, Nat.zero_le _, fun j hj => absurd hj (Nat.not_lt_zero _)⟩ (by simp only; omega)
          rintro v again ⟨i, rfl, hi, hall⟩ hag
          unfold fs_Named.s0
          simp only [decide_eq_true_eq]
          by_cases hlt : i < y.length
          · rw [if_pos (by omega), gate_pos (inR_of (by omega) (by omega)), getI_nat]
            generalize hz : y.getD i 0 = z
            have body : (if z < 97 then (if z < 48 then some (!decide (z = 45)) else if z > 57 then some (!decide (z = 45)) else some false) else if z > 122 then (if z < 48 then some (!decide (z = 45)) else if z > 57 then some (!decide (z = 45)) else some false) else some false : Option Bool) = some (!nameCh z) := by
              unfold nameCh
              repeat' split
              all_goals
                simp only [Option.some.injEq, Bool.not_or, Bool.false_eq, Bool.and_eq_false_imp]
                rw [Bool.eq_iff_iff]
                simp
                try omega
            rw [body]
            simp only [bindO]
            cases hc : nameCh z with
            | true =>
              simp only [Bool.not_true, Bool.false_eq_true, if_false]
              rw [w64 (by omega) (by omega)]
              refine hag _ ⟨i + 1, by simp, by omega, fun j hj => ?_⟩ (by simp only; omega)
              rcases Nat.lt_or_eq_of_le (Nat.le_of_lt_succ hj) with h | h
              · exact hall j h
              · subst h; rw [hz]; exact hc
            | false =>
              simp only [Bool.not_false, if_true, Option.some.injEq, Bool.false_eq]
              rw [List.all_eq_false]
              refine ⟨y[i], List.getElem_mem hlt, ?_⟩
              rw [List.getD_eq_getElem?_getD, List.getElem?_eq_getElem hlt] at hz
              simp only [Option.getD_some] at hz
              rw [hz, hc]
              simp
          · rw [if_neg (by omega)]
            simp only [Option.some.injEq, Bool.true_eq, List.all_eq_true]
            intro z hz
            obtain ⟨j, hj, rfl⟩ := List.getElem_of_mem hz
            have := hall j (by omega)
            rw [List.getD_eq_getElem?_getD, List.getElem?_eq_getElem hj] at this
            exact this
    · rw [if_pos (by simp only [decide_eq_true_eq]; omega)]
      have : nameB (x :: r) = false := by
        simp only [nameB]
        have : decide ((x :: r).length ≤ 12) = false := by simpa using hl
        rw [this]; simp
      rw [this]; rfl

theorem dropWhile_nil {p : Int → Bool} : ∀ l : List Int, l.dropWhile p = [] ↔ ∀ x ∈ l, p x = true := by
  intro l
  induction l with
  | nil => simp
  | cons x r ih =>
    simp only [List.dropWhile_cons, List.mem_cons, forall_eq_or_imp]
    cases h : p x with
    | true => simp [ih]
    | false => simp

theorem trimI_nil (cs l : List Int) : trimI cs l = [] ↔ ∀ x ∈ l, cs.contains x = true := by
  have hd : ∀ m : List Int, (∀ x ∈ m.dropWhile (cs.contains ·), cs.contains x = true) → m.dropWhile (cs.contains ·) = [] := by
    intro m
    induction m with
    | nil => intro _; rfl
    | cons x r ih =>
      intro h
      rw [List.dropWhile_cons] at h ⊢
      cases hc : cs.contains x with
      | true => rw [hc] at h; simp only [if_true] at h ⊢; exact ih h
      | false =>
        rw [hc] at h
        simp only [Bool.false_eq_true, if_false, List.mem_cons, forall_eq_or_imp] at h
        rw [hc] at h
        exact absurd h.1 (by decide)
  unfold trimI
  rw [dropWhile_nil]
  constructor
  · intro h
    have h1 := hd l.reverse (fun x hx => h x (by simpa using hx))
    rw [dropWhile_nil] at h1
    exact fun x hx => h1 x (by simpa using hx)
  · intro h x hx
    have h1 : x ∈ l.reverse.dropWhile (cs.contains ·) := by simpa using hx
    exact h x (by simpa using (List.dropWhile_sublist _).mem h1)

theorem idxI_ge (c : Int) : ∀ l : List Int, -1 ≤ idxI c l ∧ (0 ≤ idxI c l ↔ c ∈ l) := by
  intro l
  induction l with
  | nil => simp [idxI]
  | cons x r ih =>
    obtain ⟨h1, h2⟩ := ih
    simp only [idxI, List.mem_cons]
    by_cases h : x = c
    · rw [if_pos h]
      simp [h]
    · rw [if_neg h]
      by_cases h3 : idxI c r = -1
      · rw [if_pos h3]
        refine ⟨by omega, ?_⟩
        constructor
        · intro h4; omega
        · intro h4
          rcases h4 with h4 | h4
          · exact absurd h4.symm h
          · have := h2.2 h4; omega
      · rw [if_neg h3]
        refine ⟨by omega, ?_⟩
        constructor
        · intro h4; exact Or.inr (h2.1 (by omega))
        · intro h4
          rcases h4 with h4 | h4
          · exact absurd h4.symm h
          · have := h2.2 h4; omega

theorem letter_mem (x : Int) : x ∈ ([97, 98, 99, 100, 101, 102, 103, 104, 105, 106, 107, 108, 109, 110, 111, 112, 113, 114, 115, 116, 117, 118, 119, 120, 121, 122] : List Int) ↔ 97 ≤ x ∧ x ≤ 122 := by
  simp only [List.mem_cons, List.not_mem_nil, or_false]
  omega

theorem nameCh_mem (x : Int) : ([97, 98, 99, 100, 101, 102, 103, 104, 105, 106, 107, 108, 109, 110, 111, 112, 113, 114, 115, 116, 117, 118, 119, 120, 121, 122, 48, 49, 50, 51, 52, 53, 54, 55, 56, 57, 45] : List Int).contains x = nameCh x := by
  rw [Bool.eq_iff_iff]
  simp only [List.contains_eq_mem, decide_eq_true_eq, nameCh, Bool.or_eq_true, List.mem_cons, List.not_mem_nil, or_false]
  omega

theorem word_eq (N : Nat) (s : List Int) : wrackref2_Word N s = some (nameB s) := by
  unfold wrackref2_Word
  cases s with
  | nil => rfl
  | cons x r =>
    simp only [decide_eq_true_eq]
    rw [if_pos (by simp)]
    by_cases hl : ((x :: r).length : Int) ≤ 12
    · rw [if_pos hl, gate_pos (bounds_of (by omega) (by omega) (by simp only [List.length_cons]; omega))]
      have ec : cut (x :: r) (0 : Int) (1 : Int) = [x] := rfl
      have hcon : strings_Contains N [97, 98, 99, 100, 101, 102, 103, 104, 105, 106, 107, 108, 109, 110, 111, 112, 113, 114, 115, 116, 117, 118, 119, 120, 121, 122] [x] = some (decide (97 ≤ x ∧ x ≤ 122)) := by
        unfold strings_Contains
        simp only [indexF, bindO, Option.some.injEq, ge_iff_le]
        rw [Bool.eq_iff_iff]
        simp only [decide_eq_true_eq]
        rw [(idxI_ge x _).2, letter_mem]
      rw [ec, bindO_of hcon]
      by_cases hx : 97 ≤ x ∧ x ≤ 122
      · rw [if_pos (by simpa using hx)]
        have ht : trimF (x :: r) [97, 98, 99, 100, 101, 102, 103, 104, 105, 106, 107, 108, 109, 110, 111, 112, 113, 114, 115, 116, 117, 118, 119, 120, 121, 122, 48, 49, 50, 51, 52, 53, 54, 55, 56, 57, 45] = some (trimI [97, 98, 99, 100, 101, 102, 103, 104, 105, 106, 107, 108, 109, 110, 111, 112, 113, 114, 115, 116, 117, 118, 119, 120, 121, 122, 48, 49, 50, 51, 52, 53, 54, 55, 56, 57, 45] (x :: r)) := by
          unfold trimF
          rw [if_pos (by decide)]
        rw [bindO_of ht]
        simp only [bindO, Option.some.injEq, nameB]
        rw [decide_eq_true (show (x :: r).length ≤ 12 by omega), decide_eq_true hx]
        simp only [Bool.true_and]
        rw [Bool.eq_iff_iff]
        simp only [decide_eq_true_eq, trimI_nil, nameCh_mem, List.all_eq_true]
      · rw [if_neg (by simpa using hx)]
        simp only [bindO, nameB]
        rw [decide_eq_false hx]
        simp
    · rw [if_neg hl]
      simp only [bindO, nameB]
      rw [decide_eq_false (show ¬ (x :: r).length ≤ 12 by omega)]
      simp

/-! ### paths -/
def pathB (s : List Int) : Bool := decide ((splitI 47 s).length ≤ 4) && (splitI 47 s).all nameB

theorem splitI_len (c : Int) : ∀ l : List Int, (splitI c l).length ≤ l.length + 1 ∧ ∀ p ∈ splitI c l, p.length ≤ l.length := by
  intro l
  induction l with
  | nil => simp [splitI]
  | cons x r ih =>
    simp only [splitI]
    obtain ⟨h1, h2⟩ := ih
    split
    · refine ⟨by simp; omega, fun p hp => ?_⟩
      rcases List.mem_cons.1 hp with hp | hp
      · subst hp; simp
      · have := h2 p hp; simp; omega
    · split
      · rename_i a t hs
        rw [hs] at h1 h2
        refine ⟨by simp at h1 ⊢; omega, fun p hp => ?_⟩
        rcases List.mem_cons.1 hp with hp | hp
        · subst hp
          have := h2 a (by simp)
          simp; omega
        · have := h2 p (by simp [hp])
          simp; omega
      · exact ⟨by simp, fun p hp => by simp at hp; subst hp; simp⟩

theorem way_eq (N : Nat) (s : List Int) (hs : s.length ≤ 1048576) (hN : 1048577 < N) : wrackref2_Way N s = some (pathB s) := by
  unfold wrackref2_Way
  rw [bindO_of (split_eq N s hs)]
  have hlen := (splitI_len 47 s).1
  unfold pathB
  generalize splitI 47 s = l at *
  refine iter_rule (fun v => ∃ i : Nat, v = (l, l, (i : Int), ()) ∧ i ≤ l.length ∧ ∀ j : Nat, j < i → nameB (l.getD j []) = true) (fun v => l.length - v.2.2.1.toNat)
    (fun o => o = some (decide (l.length ≤ 4) && l.all nameB)) ?_ N _ ⟨0, rfl, Nat.zero_le _, fun j hj => absurd hj (Nat.not_lt_zero _)⟩ (by simp only; omega)
  rintro v again ⟨i, rfl, hi, hall⟩ hag
  unfold wrackref2_Way.s0
  simp only [decide_eq_true_eq]
  by_cases hlt : i < l.length
  · rw [if_pos (by omega), gate_pos (inR_of (by omega) (by omega)), getI_nat, bindO_of (word_eq N _)]
    cases hc : nameB (l.getD i []) with
    | true =>
      simp only [Bool.not_true, Bool.false_eq_true, if_false]
      rw [w64 (by omega) (by omega)]
      refine hag _ ⟨i + 1, by simp, by omega, fun j hj => ?_⟩ (by simp only; omega)
      rcases Nat.lt_or_eq_of_le (Nat.le_of_lt_succ hj) with h | h
      · exact hall j h
      · subst h; exact hc
    | false =>
      simp only [Bool.not_false, if_true, Option.some.injEq, Bool.false_eq, Bool.and_eq_false_imp]
      intro _
      rw [List.all_eq_false]
      refine ⟨l[i], List.getElem_mem hlt, ?_⟩
      rw [List.getD_eq_getElem?_getD, List.getElem?_eq_getElem hlt] at hc
      simp only [Option.getD_some] at hc
      rw [hc]; simp
  · rw [if_neg (by omega)]
    have : l.all nameB = true := by
      rw [List.all_eq_true]
      intro z hz
      obtain ⟨j, hj, rfl⟩ := List.getElem_of_mem hz
      have := hall j (by omega)
      rw [List.getD_eq_getElem?_getD, List.getElem?_eq_getElem hj] at this
      exact this
    rw [this]
    simp only [Option.some.injEq, Bool.and_true, decide_eq_decide]
    omega

theorem path_eq (N : Nat) (s : List Int) (hs : s.length ≤ 1048576) (hN : 1048577 < N) : fs_Path N s = some (if pathB s = true then 0 else 6) := by
  unfold fs_Path
  rw [bindO_of (split_eq N s hs)]
  obtain ⟨hlen, hparts⟩ := splitI_len 47 s
  unfold pathB
  generalize splitI 47 s = l at *
  simp only [decide_eq_true_eq]
  by_cases h4 : (l.length : Int) > 4
  · rw [if_pos h4, decide_eq_false (show ¬ l.length ≤ 4 by omega)]
    simp
  · rw [if_neg h4, decide_eq_true (show l.length ≤ 4 by omega), Bool.true_and]
    refine iter_rule (fun v => ∃ i : Nat, v = ((i : Int), ()) ∧ i ≤ l.length ∧ ∀ j : Nat, j < i → nameB (l.getD j []) = true) (fun v => l.length - v.1.toNat)
      (fun o => o = some (if l.all nameB = true then (0 : Int) else 6)) ?_ N _ ⟨0, rfl, Nat.zero_le _, fun j hj => absurd hj (Nat.not_lt_zero _)⟩ (by simp only; omega)
    rintro v again ⟨i, rfl, hi, hall⟩ hag
    unfold fs_Path_i0_slices_ContainsFunc_i0_slices_IndexFunc.s0
    simp only [decide_eq_true_eq]
    by_cases hlt : i < l.length
    · have hp : fs_Path_1 N (l.getD i []) = some (!nameB (l.getD i [])) := by
        unfold fs_Path_1
        rw [bindO_of (named_eq N _ (by
          rw [List.getD_eq_getElem?_getD, List.getElem?_eq_getElem hlt]
          have := hparts _ (List.getElem_mem hlt)
          simp only [Option.getD_some]; omega) hN)]
      rw [if_pos (by omega), gate_pos (inR_of (by omega) (by omega)), getI_nat, bindO_of hp]
      cases hc : nameB (l.getD i []) with
      | true =>
        simp only [Bool.not_true, Bool.false_eq_true, if_false]
        rw [w64 (by omega) (by omega)]
        refine hag _ ⟨i + 1, by simp, by omega, fun j hj => ?_⟩ (by simp only; omega)
        rcases Nat.lt_or_eq_of_le (Nat.le_of_lt_succ hj) with h | h
        · exact hall j h
        · subst h; exact hc
      | false =>
        simp only [Bool.not_false, if_true]
        rw [if_pos (by omega)]
        have : l.all nameB = false := by
          rw [List.all_eq_false]
          refine ⟨l[i], List.getElem_mem hlt, ?_⟩
          rw [List.getD_eq_getElem?_getD, List.getElem?_eq_getElem hlt] at hc
          simp only [Option.getD_some] at hc
          rw [hc]; simp
        rw [this]; rfl
    · rw [if_neg (by omega)]
      have : l.all nameB = true := by
        rw [List.all_eq_true]
        intro z hz
        obtain ⟨j, hj, rfl⟩ := List.getElem_of_mem hz
        have := hall j (by omega)
        rw [List.getD_eq_getElem?_getD, List.getElem?_eq_getElem hj] at this
        exact this
      rw [this]
      simp

end Go.Proofs.YteekijpcdcpjkaaDoor
