/-
  PLAIN: all plain texts that fsDiffs_true needs, in one.
-/
import Derived.Test.YthkpfkjbflcpnaaDoorAbPlain
import Derived.Test.YthkpfkjbflcpnaaDoorPu
import Derived.Test.YthkpfkjbflcpnaaDoorAbSortFFn
set_option linter.unusedVariables false
set_option linter.unusedSimpArgs false
namespace Go.Proofs.YthkpfkjbflcpnaaDoor
open Go Go.Ab

theorem splitI_ne (c : Int) : ∀ l, splitI c l ≠ [] := by
  intro l
  cases l with
  | nil => simp [splitI]
  | cons x r =>
    simp only [splitI]
    split
    · simp
    · split <;> simp

theorem splitI_free (c : Int) : ∀ l : List Int, c ∉ l → splitI c l = [l] := by
  intro l
  induction l with
  | nil => intro _; rfl
  | cons x r ih =>
    intro h
    simp only [List.mem_cons, not_or] at h
    simp only [splitI]
    rw [if_neg (fun e => h.1 e.symm), ih h.2]

theorem splitI_app (c : Int) (b : List Int) : ∀ a : List Int, splitI c (a ++ c :: b) = splitI c a ++ splitI c b := by
  intro a
  induction a with
  | nil => simp [splitI]
  | cons x r ih =>
    simp only [List.cons_append, splitI, ih]
    by_cases h : x = c
    · rw [if_pos h, if_pos h]; rfl
    · rw [if_neg h, if_neg h]
      cases hs : splitI c r with
      | nil => exact absurd hs (splitI_ne c r)
      | cons p q => rfl

theorem joinI_cons (sep x : List Int) (y : List Int) (r : List (List Int)) : joinI sep (x :: y :: r) = x ++ (sep ++ joinI sep (y :: r)) := by
  simp [joinI, List.intercalate]

theorem join_split (c : Int) : ∀ a : List Int, joinI [c] (splitI c a) = a := by
  intro a
  induction a with
  | nil => simp [splitI, joinI, List.intercalate]
  | cons x r ih =>
    simp only [splitI]
    cases hs : splitI c r with
    | nil => exact absurd hs (splitI_ne c r)
    | cons p q =>
      rw [hs] at ih
      by_cases h : x = c
      · subst h
        rw [if_pos rfl, joinI_cons, ih]
        rfl
      · rw [if_neg h]
        simp only
        cases q with
        | nil =>
          simp only [joinI, List.intercalate, List.intersperse, List.flatten_cons, List.flatten_nil, List.append_nil] at ih ⊢
          rw [ih]
        | cons p' q' =>
          rw [joinI_cons] at ih ⊢
          rw [List.cons_append, ih]

def nameCh (x : Int) : Bool := decide (97 ≤ x ∧ x ≤ 122) || decide (48 ≤ x ∧ x ≤ 57) || decide (x = 45)

def nameB (s : List Int) : Bool := match s with
  | [] => false
  | x :: r => decide (s.length ≤ 12) && (decide (97 ≤ x ∧ x ≤ 122) && s.all nameCh)

theorem split_eq (N : Nat) (s : List Int) (hs : s.length ≤ 1048576) : strings_Split N s [47] = some (splitI 47 s) := by
  unfold strings_Split
  have : genSplitF s [47] 0 (-1) = some (splitI 47 s) := by
    simp only [genSplitF]
    rw [if_pos ⟨trivial, trivial, by omega⟩]
  rw [bindO_of this]

theorem named_eq (N : Nat) (s : List Int) (hs : s.length ≤ 1048576) (hN : 1048577 < N) : fs_Named N s = some (nameB s) := by
  unfold fs_Named
  cases s with
  | nil => rfl
  | cons x r =>
    have e0 : getI 0 (x :: r) (0 : Int) = x := rfl
    rw [if_neg (by simp)]
    by_cases hl : (x :: r).length ≤ 12
    · rw [if_neg (by simp only [decide_eq_true_eq]; omega), gate_pos (inR_of (by omega) (by simp)), gate_pos (inR_of (by omega) (by simp)), e0]
      simp only [decide_eq_true_eq]
      by_cases h1 : x < 97
      · rw [if_pos h1]
        have : nameB (x :: r) = false := by
          simp only [nameB]
          have : decide (97 ≤ x ∧ x ≤ 122) = false := by simp; omega
          rw [this]; simp
        rw [this]; rfl
      · rw [if_neg h1]
        by_cases h2 : x > 122
        · have : nameB (x :: r) = false := by
            simp only [nameB]
            have : decide (97 ≤ x ∧ x ≤ 122) = false := by simp; omega
            rw [this]; simp
          rw [this]
          simp [bindO, h2]
        · have hx : decide (97 ≤ x ∧ x ≤ 122) = true := by simp; omega
          have hnb : nameB (x :: r) = (x :: r).all nameCh := by
            simp only [nameB]
            rw [hx]
            simp only [Bool.true_and]
            rw [show decide ((x :: r).length ≤ 12) = true by simpa using hl]
            simp
          rw [hnb]
          simp only [bindO, h2, decide_false]
          rw [if_neg (by decide)]
          generalize hy : x :: r = y at *
          refine iter_rule (fun v => ∃ i : Nat, v = ((i : Int), ()) ∧ i ≤ y.length ∧ ∀ j : Nat, j < i → nameCh (y.getD j 0) = true) (fun v => y.length - v.1.toNat)
            (fun o => o = some (y.all nameCh)) ?_ N _ ⟨0, rfl, Nat.zero_le _, fun j hj => absurd hj (Nat.not_lt_zero _)⟩ (by simp only; omega)
          rintro v again ⟨i, rfl, hi, hall⟩ hag
          unfold fs_Named.s0
          simp only [decide_eq_true_eq]
          by_cases hlt : i < y.length
          · rw [if_pos (by omega), gate_pos (inR_of (by omega) (by omega)), getI_nat]
            generalize hz : y.getD i 0 = z
            have body : (if z < 97 then (if z < 48 then some (!decide (z = 45)) else if z > 57 then some (!decide (z = 45)) else some false) else if z > 122 then (if z < 48 then some (!decide (z = 45)) else if z > 57 then some (!decide (z = 45)) else some false) else some false : Option Bool) = some (!nameCh z) := by
              unfold nameCh
              repeat' split
              all_goals
                simp only [Option.some.injEq, Bool.not_or, Bool.false_eq, Bool.and_eq_false_imp]
                rw [Bool.eq_iff_iff]
                simp
                try omega
            rw [body]
            simp only [bindO]
            cases hc : nameCh z with
            | true =>
              simp only [Bool.not_true, Bool.false_eq_true, if_false]
              rw [w64 (by omega) (by omega)]
              refine hag _ ⟨i + 1, by simp, by omega, fun j hj => ?_⟩ (by simp only; omega)
              rcases Nat.lt_or_eq_of_le (Nat.le_of_lt_succ hj) with h | h
              · exact hall j h
              · subst h; rw [hz]; exact hc
            | false =>
              simp only [Bool.not_false, if_true, Option.some.injEq, Bool.false_eq]
              rw [List.all_eq_false]
              refine ⟨y[i], List.getElem_mem hlt, ?_⟩
              rw [List.getD_eq_getElem?_getD, List.getElem?_eq_getElem hlt] at hz
              simp only [Option.getD_some] at hz
              rw [hz, hc]
              simp
          · rw [if_neg (by omega)]
            simp only [Option.some.injEq, Bool.true_eq, List.all_eq_true]
            intro z hz
            obtain ⟨j, hj, rfl⟩ := List.getElem_of_mem hz
            have := hall j (by omega)
            rw [List.getD_eq_getElem?_getD, List.getElem?_eq_getElem hj] at this
            exact this
    · rw [if_pos (by simp only [decide_eq_true_eq]; omega)]
      have : nameB (x :: r) = false := by
        simp only [nameB]
        have : decide ((x :: r).length ≤ 12) = false := by simpa using hl
        rw [this]; simp
      rw [this]; rfl

theorem dropWhile_nil {p : Int → Bool} : ∀ l : List Int, l.dropWhile p = [] ↔ ∀ x ∈ l, p x = true := by
  intro l
  induction l with
  | nil => simp
  | cons x r ih =>
    simp only [List.dropWhile_cons, List.mem_cons, forall_eq_or_imp]
    cases h : p x with
    | true => simp [ih]
    | false => simp

theorem trimI_nil (cs l : List Int) : trimI cs l = [] ↔ ∀ x ∈ l, cs.contains x = true := by
  have hd : ∀ m : List Int, (∀ x ∈ m.dropWhile (cs.contains ·), cs.contains x = true) → m.dropWhile (cs.contains ·) = [] := by
    intro m
    induction m with
    | nil => intro _; rfl
    | cons x r ih =>
      intro h
      rw [List.dropWhile_cons] at h ⊢
      cases hc : cs.contains x with
      | true => rw [hc] at h; simp only [if_true] at h ⊢; exact ih h
      | false =>
        rw [hc] at h
        simp only [Bool.false_eq_true, if_false, List.mem_cons, forall_eq_or_imp] at h
        rw [hc] at h
        exact absurd h.1 (by decide)
  unfold trimI
  rw [dropWhile_nil]
  constructor
  · intro h
    have h1 := hd l.reverse (fun x hx => h x (by simpa using hx))
    rw [dropWhile_nil] at h1
    exact fun x hx => h1 x (by simpa using hx)
  · intro h x hx
    have h1 : x ∈ l.reverse.dropWhile (cs.contains ·) := by simpa using hx
    exact h x (by simpa using (List.dropWhile_sublist _).mem h1)

theorem idxI_ge (c : Int) : ∀ l : List Int, -1 ≤ idxI c l ∧ (0 ≤ idxI c l ↔ c ∈ l) := by
  intro l
  induction l with
  | nil => simp [idxI]
  | cons x r ih =>
    obtain ⟨h1, h2⟩ := ih
    simp only [idxI, List.mem_cons]
    by_cases h : x = c
    · rw [if_pos h]
      simp [h]
    · rw [if_neg h]
      by_cases h3 : idxI c r = -1
      · rw [if_pos h3]
        refine ⟨by omega, ?_⟩
        constructor
        · intro h4; omega
        · intro h4
          rcases h4 with h4 | h4
          · exact absurd h4.symm h
          · have := h2.2 h4; omega
      · rw [if_neg h3]
        refine ⟨by omega, ?_⟩
        constructor
        · intro h4; exact Or.inr (h2.1 (by omega))
        · intro h4
          rcases h4 with h4 | h4
          · exact absurd h4.symm h
          · have := h2.2 h4; omega

theorem letter_mem (x : Int) : x ∈ ([97, 98, 99, 100, 101, 102, 103, 104, 105, 106, 107, 108, 109, 110, 111, 112, 113, 114, 115, 116, 117, 118, 119, 120, 121, 122] : List Int) ↔ 97 ≤ x ∧ x ≤ 122 := by
  simp only [List.mem_cons, List.not_mem_nil, or_false]
  omega

theorem nameCh_mem (x : Int) : ([97, 98, 99, 100, 101, 102, 103, 104, 105, 106, 107, 108, 109, 110, 111, 112, 113, 114, 115, 116, 117, 118, 119, 120, 121, 122, 48, 49, 50, 51, 52, 53, 54, 55, 56, 57, 45] : List Int).contains x = nameCh x := by
  rw [Bool.eq_iff_iff]
  simp only [List.contains_eq_mem, decide_eq_true_eq, nameCh, Bool.or_eq_true, List.mem_cons, List.not_mem_nil, or_false]
  omega

theorem word_eq (N : Nat) (s : List Int) : wrackref2_Word N s = some (nameB s) := by
  unfold wrackref2_Word
  cases s with
  | nil => rfl
  | cons x r =>
    simp only [decide_eq_true_eq]
    rw [if_pos (by simp)]
    by_cases hl : ((x :: r).length : Int) ≤ 12
    · rw [if_pos hl, gate_pos (bounds_of (by omega) (by omega) (by simp only [List.length_cons]; omega))]
      have ec : cut (x :: r) (0 : Int) (1 : Int) = [x] := rfl
      have hcon : strings_Contains N [97, 98, 99, 100, 101, 102, 103, 104, 105, 106, 107, 108, 109, 110, 111, 112, 113, 114, 115, 116, 117, 118, 119, 120, 121, 122] [x] = some (decide (97 ≤ x ∧ x ≤ 122)) := by
        unfold strings_Contains
        simp only [indexF, bindO, Option.some.injEq, ge_iff_le]
        rw [Bool.eq_iff_iff]
        simp only [decide_eq_true_eq]
        rw [(idxI_ge x _).2, letter_mem]
      rw [ec, bindO_of hcon]
      by_cases hx : 97 ≤ x ∧ x ≤ 122
      · rw [if_pos (by simpa using hx)]
        have ht : trimF (x :: r) [97, 98, 99, 100, 101, 102, 103, 104, 105, 106, 107, 108, 109, 110, 111, 112, 113, 114, 115, 116, 117, 118, 119, 120, 121, 122, 48, 49, 50, 51, 52, 53, 54, 55, 56, 57, 45] = some (trimI [97, 98, 99, 100, 101, 102, 103, 104, 105, 106, 107, 108, 109, 110, 111, 112, 113, 114, 115, 116, 117, 118, 119, 120, 121, 122, 48, 49, 50, 51, 52, 53, 54, 55, 56, 57, 45] (x :: r)) := by
          unfold trimF
          rw [if_pos (by decide)]
        rw [bindO_of ht]
        simp only [bindO, Option.some.injEq, nameB]
        rw [decide_eq_true (show (x :: r).length ≤ 12 by omega), decide_eq_true hx]
        simp only [Bool.true_and]
        rw [Bool.eq_iff_iff]
        simp only [decide_eq_true_eq, trimI_nil, nameCh_mem, List.all_eq_true]
      · rw [if_neg (by simpa using hx)]
        simp only [bindO, nameB]
        rw [decide_eq_false hx]
        simp
    · rw [if_neg hl]
      simp only [bindO, nameB]
      rw [decide_eq_false (show ¬ (x :: r).length ≤ 12 by omega)]
      simp

def pathB (s : List Int) : Bool := decide ((splitI 47 s).length ≤ 4) && (splitI 47 s).all nameB

theorem splitI_len (c : Int) : ∀ l : List Int, (splitI c l).length ≤ l.length + 1 ∧ ∀ p ∈ splitI c l, p.length ≤ l.length := by
  intro l
  induction l with
  | nil => simp [splitI]
  | cons x r ih =>
    simp only [splitI]
    obtain ⟨h1, h2⟩ := ih
    split
    · refine ⟨by simp; omega, fun p hp => ?_⟩
      rcases List.mem_cons.1 hp with hp | hp
      · subst hp; simp
      · have := h2 p hp; simp; omega
    · split
      · rename_i a t hs
        rw [hs] at h1 h2
        refine ⟨by simp at h1 ⊢; omega, fun p hp => ?_⟩
        rcases List.mem_cons.1 hp with hp | hp
        · subst hp
          have := h2 a (by simp)
          simp; omega
        · have := h2 p (by simp [hp])
          simp; omega
      · exact ⟨by simp, fun p hp => by simp at hp; subst hp; simp⟩

theorem way_eq (N : Nat) (s : List Int) (hs : s.length ≤ 1048576) (hN : 1048577 < N) : wrackref2_Way N s = some (pathB s) := by
  unfold wrackref2_Way
  rw [bindO_of (split_eq N s hs)]
  have hlen := (splitI_len 47 s).1
  unfold pathB
  generalize splitI 47 s = l at *
  refine iter_rule (fun v => ∃ i : Nat, v = (l, l, (i : Int), ()) ∧ i ≤ l.length ∧ ∀ j : Nat, j < i → nameB (l.getD j []) = true) (fun v => l.length - v.2.2.1.toNat)
    (fun o => o = some (decide (l.length ≤ 4) && l.all nameB)) ?_ N _ ⟨0, rfl, Nat.zero_le _, fun j hj => absurd hj (Nat.not_lt_zero _)⟩ (by simp only; omega)
  rintro v again ⟨i, rfl, hi, hall⟩ hag
  unfold wrackref2_Way.s0
  simp only [decide_eq_true_eq]
  by_cases hlt : i < l.length
  · rw [if_pos (by omega), gate_pos (inR_of (by omega) (by omega)), getI_nat, bindO_of (word_eq N _)]
    cases hc : nameB (l.getD i []) with
    | true =>
      simp only [Bool.not_true, Bool.false_eq_true, if_false]
      rw [w64 (by omega) (by omega)]
      refine hag _ ⟨i + 1, by simp, by omega, fun j hj => ?_⟩ (by simp only; omega)
      rcases Nat.lt_or_eq_of_le (Nat.le_of_lt_succ hj) with h | h
      · exact hall j h
      · subst h; exact hc
    | false =>
      simp only [Bool.not_false, if_true, Option.some.injEq, Bool.false_eq, Bool.and_eq_false_imp]
      intro _
      rw [List.all_eq_false]
      refine ⟨l[i], List.getElem_mem hlt, ?_⟩
      rw [List.getD_eq_getElem?_getD, List.getElem?_eq_getElem hlt] at hc
      simp only [Option.getD_some] at hc
      rw [hc]; simp
  · rw [if_neg (by omega)]
    have : l.all nameB = true := by
      rw [List.all_eq_true]
      intro z hz
      obtain ⟨j, hj, rfl⟩ := List.getElem_of_mem hz
      have := hall j (by omega)
      rw [List.getD_eq_getElem?_getD, List.getElem?_eq_getElem hj] at this
      exact this
    rw [this]
    simp only [Option.some.injEq, Bool.and_true, decide_eq_decide]
    omega

theorem path_eq (N : Nat) (s : List Int) (hs : s.length ≤ 1048576) (hN : 1048577 < N) : fs_Path N s = some (if pathB s = true then 0 else 6) := by
  unfold fs_Path
  rw [bindO_of (split_eq N s hs)]
  obtain ⟨hlen, hparts⟩ := splitI_len 47 s
  unfold pathB
  generalize splitI 47 s = l at *
  simp only [decide_eq_true_eq]
  by_cases h4 : (l.length : Int) > 4
  · rw [if_pos h4, decide_eq_false (show ¬ l.length ≤ 4 by omega)]
    simp
  · rw [if_neg h4, decide_eq_true (show l.length ≤ 4 by omega), Bool.true_and]
    refine iter_rule (fun v => ∃ i : Nat, v = ((i : Int), ()) ∧ i ≤ l.length ∧ ∀ j : Nat, j < i → nameB (l.getD j []) = true) (fun v => l.length - v.1.toNat)
      (fun o => o = some (if l.all nameB = true then (0 : Int) else 6)) ?_ N _ ⟨0, rfl, Nat.zero_le _, fun j hj => absurd hj (Nat.not_lt_zero _)⟩ (by simp only; omega)
    rintro v again ⟨i, rfl, hi, hall⟩ hag
    unfold fs_Path_i0_slices_ContainsFunc_i0_slices_IndexFunc.s0
    simp only [decide_eq_true_eq]
    by_cases hlt : i < l.length
    · have hp : fs_Path_1 N (l.getD i []) = some (!nameB (l.getD i [])) := by
        unfold fs_Path_1
        rw [bindO_of (named_eq N _ (by
          rw [List.getD_eq_getElem?_getD, List.getElem?_eq_getElem hlt]
          have := hparts _ (List.getElem_mem hlt)
          simp only [Option.getD_some]; omega) hN)]
      rw [if_pos (by omega), gate_pos (inR_of (by omega) (by omega)), getI_nat, bindO_of hp]
      cases hc : nameB (l.getD i []) with
      | true =>
        simp only [Bool.not_true, Bool.false_eq_true, if_false]
        rw [w64 (by omega) (by omega)]
        refine hag _ ⟨i + 1, by simp, by omega, fun j hj => ?_⟩ (by simp only; omega)
        rcases Nat.lt_or_eq_of_le (Nat.le_of_lt_succ hj) with h | h
        · exact hall j h
        · subst h; exact hc
      | false =>
        simp only [Bool.not_false, if_true]
        rw [if_pos (by omega)]
        have : l.all nameB = false := by
          rw [List.all_eq_false]
          refine ⟨l[i], List.getElem_mem hlt, ?_⟩
          rw [List.getD_eq_getElem?_getD, List.getElem?_eq_getElem hlt] at hc
          simp only [Option.getD_some] at hc
          rw [hc]; simp
        rw [this]; rfl
    · rw [if_neg (by omega)]
      have : l.all nameB = true := by
        rw [List.all_eq_true]
        intro z hz
        obtain ⟨j, hj, rfl⟩ := List.getElem_of_mem hz
        have := hall j (by omega)
        rw [List.getD_eq_getElem?_getD, List.getElem?_eq_getElem hj] at this
        exact this
      rw [this]
      simp

/-- what is before the last slash, what is behind -/
def dirI (s : List Int) : List Int := joinI [47] ((splitI 47 s).dropLast)

def baseI (s : List Int) : List Int := (splitI 47 s).getLastD []

theorem last_cut (s : List Int) : (∀ j : Nat, j < s.length → s.getD j 0 ≠ 47) → dirI s = [] ∧ baseI s = s := by
  intro h
  have hf : (47 : Int) ∉ s := by
    intro hm
    obtain ⟨j, hj, e⟩ := List.getElem_of_mem hm
    exact h j hj (by rw [List.getD_eq_getElem?_getD, List.getElem?_eq_getElem hj]; exact e)
  simp [dirI, baseI, splitI_free 47 s hf, joinI, List.intercalate]

theorem at_cut (s : List Int) (k : Nat) (hk : k < s.length) (he : s.getD k 0 = 47) (h : ∀ j : Nat, k < j → j < s.length → s.getD j 0 ≠ 47) : dirI s = s.take k ∧ baseI s = s.drop (k + 1) := by
  have hs : s = s.take k ++ 47 :: s.drop (k + 1) := by
    conv => lhs; rw [← List.take_append_drop k s]
    rw [List.drop_eq_getElem_cons hk]
    congr 2
    rw [List.getD_eq_getElem?_getD, List.getElem?_eq_getElem hk] at he
    exact he
  have hf : (47 : Int) ∉ s.drop (k + 1) := by
    intro hm
    obtain ⟨j, hj, e⟩ := List.getElem_of_mem hm
    rw [List.getElem_drop] at e
    rw [List.length_drop] at hj
    exact h (k + 1 + j) (by omega) (by omega) (by rw [List.getD_eq_getElem?_getD, List.getElem?_eq_getElem (by omega)]; exact e)
  have hsp : splitI 47 s = splitI 47 (s.take k) ++ [s.drop (k + 1)] := by
    conv => lhs; rw [hs]
    rw [splitI_app, splitI_free 47 _ hf]
  constructor
  · rw [dirI, hsp, List.dropLast_concat, join_split]
  · rw [baseI, hsp]
    simp

theorem lastByte_eq (N : Nat) (s : List Int) (c : Int) (hs : s.length ≤ 1048576) (hN : 1048577 < N) :
    ∃ r : Int, strings_LastIndexByte N s c = some r ∧ -1 ≤ r ∧ r < s.length ∧ (r = -1 ∨ s.getD r.toNat 0 = c) ∧ ∀ j : Nat, r < j → j < s.length → s.getD j 0 ≠ c := by
  have key : ∃ r : Int, bytealg_LastIndexByteString N s c = some r ∧ -1 ≤ r ∧ r < s.length ∧ (r = -1 ∨ s.getD r.toNat 0 = c) ∧ ∀ j : Nat, r < j → j < s.length → s.getD j 0 ≠ c := by
    unfold bytealg_LastIndexByteString
    simp only
    rw [w64 (by omega) (by omega)]
    refine iter_rule (fun v => ∃ i : Nat, v = ((i : Int) - 1, ()) ∧ i ≤ s.length ∧ ∀ j : Nat, i ≤ j → j < s.length → s.getD j 0 ≠ c) (fun v => (v.1 + 1).toNat)
      (fun o => ∃ r : Int, o = some r ∧ -1 ≤ r ∧ r < s.length ∧ (r = -1 ∨ s.getD r.toNat 0 = c) ∧ ∀ j : Nat, r < j → j < s.length → s.getD j 0 ≠ c) ?_ N _ ⟨s.length, rfl, Nat.le_refl _, fun j h1 h2 => absurd h2 (by omega)⟩ (by simp only; omega)
    rintro v again ⟨i, rfl, hi, hall⟩ hag
    unfold bytealg_LastIndexByteString.s0
    simp only [decide_eq_true_eq]
    cases i with
    | zero =>
      rw [if_neg (by omega)]
      exact ⟨-1, rfl, by omega, by omega, Or.inl rfl, fun j h1 h2 => hall j (by omega) h2⟩
    | succ i =>
      have e : ((i + 1 : Nat) : Int) - 1 = (i : Int) := by omega
      rw [e, if_pos (by omega), gate_pos (inR_of (by omega) (by omega)), getI_nat]
      by_cases h : s.getD i 0 = c
      · rw [if_pos h]
        exact ⟨i, rfl, by omega, by omega, Or.inr (by simpa using h), fun j h1 h2 => hall j (by omega) h2⟩
      · rw [if_neg h, w64 (by omega) (by omega)]
        refine hag _ ⟨i, rfl, by omega, fun j h1 h2 => ?_⟩ (by simp only; omega)
        rcases Nat.eq_or_lt_of_le h1 with h3 | h3
        · subst h3; exact h
        · exact hall j (by omega) h2
  obtain ⟨r, h1, h2⟩ := key
  exact ⟨r, by unfold strings_LastIndexByte; rw [bindO_of h1], h2⟩

theorem dir_eq (N : Nat) (s : List Int) (hs : s.length ≤ 1048576) (hN : 1048577 < N) : fs_Dir N s = some (dirI s) := by
  obtain ⟨r, h1, h2, h3, h4, h5⟩ := lastByte_eq N s 47 hs hN
  unfold fs_Dir
  rw [bindO_of h1]
  by_cases h : r = -1
  · subst h
    have e : maxI (0 : Int) (-1) = 0 := by decide
    rw [e, gate_pos (bounds_of (by omega) (by omega) (by omega)), (last_cut s fun j hj => h5 j (by omega) hj).1]
    simp [cut]
  · obtain ⟨k, rfl⟩ := Int.eq_ofNat_of_zero_le (show 0 ≤ r by omega)
    have e : maxI (0 : Int) (k : Int) = (k : Int) := by unfold maxI; split <;> omega
    rw [e, gate_pos (bounds_of (by omega) (by omega) (by omega)), (at_cut s k (by omega) (by simpa using h4.resolve_left h) fun j h6 h7 => h5 j (by omega) h7).1]
    have := cut_nat s 0 k (Nat.zero_le _)
    simp only [Int.natCast_zero, List.drop_zero, Nat.sub_zero] at this
    rw [← this]

theorem name_eq (N : Nat) (s : List Int) (hs : s.length ≤ 1048576) (hN : 1048577 < N) : fs_Name N s = some (baseI s) := by
  obtain ⟨r, h1, h2, h3, h4, h5⟩ := lastByte_eq N s 47 hs hN
  unfold fs_Name
  rw [bindO_of h1, w64 (by omega) (by omega)]
  obtain ⟨k, hk⟩ := Int.eq_ofNat_of_zero_le (show 0 ≤ r + 1 by omega)
  rw [hk, gate_pos (bounds_of (by omega) (by omega) (by omega))]
  simp only
  rw [cut_nat s k s.length (by omega), List.take_of_length_le (by simp)]
  by_cases h : r = -1
  · subst h
    have : k = 0 := by omega
    subst this
    rw [(last_cut s fun j hj => h5 j (by omega) hj).2]
    rfl
  · obtain ⟨q, rfl⟩ := Int.eq_ofNat_of_zero_le (show 0 ≤ r by omega)
    have : k = q + 1 := by omega
    subst this
    rw [(at_cut s q (by omega) (by simpa using h4.resolve_left h) fun j h6 h7 => h5 j (by omega) h7).2]

theorem joinI_len (x : Int) : ∀ l : List (List Int), (joinI [x] l).length ≤ (l.map List.length).sum + l.length := by
  intro l
  induction l with
  | nil => simp [joinI, List.intercalate]
  | cons a r ih =>
    cases r with
    | nil => simp [joinI, List.intercalate]
    | cons b q =>
      rw [joinI_cons]
      simp only [List.length_append, List.length_cons, List.map_cons, List.sum_cons, List.length_nil] at ih ⊢
      omega

theorem splitI_sum (c : Int) : ∀ l : List Int, ((splitI c l).map List.length).sum + (splitI c l).length = l.length + 1 := by
  intro l
  induction l with
  | nil => simp [splitI]
  | cons x r ih =>
    simp only [splitI]
    split
    · simp only [List.map_cons, List.sum_cons, List.length_nil, List.length_cons]; omega
    · split
      · rename_i a t hs
        rw [hs] at ih
        simp only [List.map_cons, List.sum_cons, List.length_cons] at ih ⊢; omega
      · rename_i hs
        exact absurd hs (splitI_ne c r)

theorem above_eq (N : Nat) (s : List Int) (hs : s.length ≤ 1048576) : wrackref2_Above N s = some (dirI s) := by
  unfold wrackref2_Above
  rw [bindO_of (split_eq N s hs)]
  obtain ⟨hlen, hparts⟩ := splitI_len 47 s
  have hne := splitI_ne 47 s
  have hsum := splitI_sum 47 s
  unfold dirI
  generalize splitI 47 s = l at *
  have hl0 : 0 < l.length := List.length_pos_iff.2 hne
  simp only
  rw [w64 (by omega) (by omega), gate_pos (bounds_of (by omega) (by omega) (by omega))]
  have e : (l.length : Int) - 1 = ((l.length - 1 : Nat) : Int) := by omega
  have ec : cut l (0 : Int) ((l.length : Int) - 1) = l.dropLast := by
    rw [e]
    have := cut_nat l 0 (l.length - 1) (Nat.zero_le _)
    simp only [Int.natCast_zero, List.drop_zero, Nat.sub_zero] at this
    rw [List.dropLast_eq_take]
    exact this
  rw [ec]
  have hd : ∀ (f : List (List Int) → Nat), True := fun _ => trivial
  have hjl := joinI_len 47 l.dropLast
  have hds : ((l.dropLast).map List.length).sum ≤ (l.map List.length).sum := by
    have : l.map List.length = (l.dropLast).map List.length ++ [(l.getLast hne).length] := by
      conv => lhs; rw [← List.dropLast_concat_getLast hne]
      rw [List.map_append]; rfl
    rw [this, List.sum_append]
    omega
  have hdl : l.dropLast.length ≤ l.length := by simp
  have hj : joinF l.dropLast [47] = some (joinI [47] l.dropLast) := by
    unfold joinF
    rw [if_pos ⟨by omega, by omega⟩]
  rw [bindO_of hj]

theorem paths_true (N : Nat) (hN : 1048577 < N) : wracklaw2_paths N = some true := by
  unfold wracklaw2_paths
  rw [bindO_of (dir_eq N _ (by decide) hN)]
  rw [if_pos (by decide), bindO_of (name_eq N _ (by decide) hN), if_pos (by decide), bindO_of (path_eq N _ (by decide) hN)]
  rfl

theorem mapGet_put {v : Ty} (z : List Int) : ∀ (m : List (List Int × v.den)) (x : List Int) (y : v.den), mapGet (k := .str) (v := v) (mapPut (k := .str) (v := v) m x y) z = if z = x then some y else mapGet (k := .str) (v := v) m z := by
  intro m x y
  induction m with
  | nil =>
    simp only [mapPut, mapGet, keyEq, decide_eq_true_eq]
  | cons e r ih =>
    simp only [mapPut, keyEq, decide_eq_true_eq]
    by_cases h : x = e.1
    · rw [if_pos h]
      simp only [mapGet, keyEq, decide_eq_true_eq]
      by_cases h2 : z = x
      · rw [if_pos h2, if_pos h2]
      · rw [if_neg h2, if_neg h2, if_neg (by rw [← h]; exact h2)]
    · rw [if_neg h]
      simp only [mapGet, keyEq, decide_eq_true_eq]
      by_cases h2 : z = e.1
      · rw [if_pos h2, if_pos h2, if_neg (fun e2 => h (by rw [← e2, h2]))]
      · rw [if_neg h2, if_neg h2, ih]

theorem equal_loop {R : Type} (N : Nat) (s : R) (k0 : Unit → R) (kr : (Bool × Unit) → R) (xs ys : List Int) (hl : xs.length = ys.length) (hx : xs.length ≤ 140737488355328) (Q : R → Prop) (h0 : xs = ys → Q (k0 ())) (h1 : xs ≠ ys → Q (kr (false, ())))
    (n : Nat) (hn : xs.length < n) : Q (iter (slices_Equal_byte.s0 N s k0 kr (xs, ys, (xs.length : Int), ())) s n ((0 : Int), ())) := by
  refine iter_rule (fun v => ∃ i : Nat, v = ((i : Int), ()) ∧ i ≤ xs.length ∧ ∀ j, j < i → xs.getD j 0 = ys.getD j 0) (fun v => xs.length - v.1.toNat) Q ?_ n _ ⟨0, rfl, Nat.zero_le _, fun j hj => absurd hj (Nat.not_lt_zero _)⟩ (by simpa using hn)
  rintro v again ⟨i, rfl, hi, hall⟩ hag
  unfold slices_Equal_byte.s0
  simp only [decide_eq_true_eq]
  by_cases hlt : i < xs.length
  · rw [if_pos (by omega), gate_pos (inR_of (by omega) (by omega)), gate_pos (inR_of (by omega) (by omega))]
    rw [getI_nat, getI_nat]
    by_cases he : xs.getD i 0 = ys.getD i 0
    · rw [if_neg (by simpa using he), w64 (by omega) (by omega)]
      refine hag _ ⟨i + 1, by simp, by omega, fun j hj => ?_⟩ (by simp; omega)
      rcases Nat.lt_or_eq_of_le (Nat.le_of_lt_succ hj) with h | h
      · exact hall j h
      · subst h; exact he
    · rw [if_pos (by simpa using he)]
      exact h1 fun h => he (by rw [h])
  · rw [if_neg (by omega)]
    refine h0 (List.ext_getElem hl fun j h1 h2 => ?_)
    have := hall j (by omega)
    simpa [h1, h2] using this

theorem equal_eq (N : Nat) (xs ys : List Int) (hx : xs.length ≤ 140737488355328) (hN : xs.length < N) : slices_Equal_byte N xs ys = some (decide (xs = ys)) := by
  unfold slices_Equal_byte
  simp only [Bool.not_eq_true', decide_eq_false_iff_not]
  by_cases hl : xs.length = ys.length
  · rw [if_neg (by omega)]
    refine equal_loop N none _ _ xs ys hl hx (fun r => r = some (decide (xs = ys))) (fun h => by simp [h]) (fun h => by simp [h]) N hN
  · rw [if_pos (by omega)]
    simp only [Option.some.injEq, Bool.false_eq, decide_eq_false_iff_not]
    exact fun h => hl (by rw [h])

theorem less_irrefl : ∀ a : List Int, strLess a a = false := by
  intro a
  induction a with
  | nil => rfl
  | cons x r ih => simp [strLess, ih]

theorem less_total : ∀ a b : List Int, strLess a b = false → strLess b a = true ∨ a = b := by
  intro a
  induction a with
  | nil => intro b; cases b <;> simp [strLess]
  | cons x r ih =>
    intro b
    cases b with
    | nil => simp [strLess]
    | cons y q =>
      simp only [strLess, Bool.or_eq_false_iff, decide_eq_false_iff_not, Bool.and_eq_false_imp, decide_eq_true_eq, Bool.or_eq_true, Bool.and_eq_true, List.cons.injEq]
      rintro ⟨h1, h2⟩
      by_cases h : x = y
      · subst h
        rcases ih q (h2 rfl) with h3 | h3
        · exact Or.inl (Or.inr ⟨rfl, h3⟩)
        · exact Or.inr ⟨rfl, h3⟩
      · exact Or.inl (Or.inl (by omega))

theorem less_trans : ∀ a b c : List Int, strLess a b = true → strLess b c = true → strLess a c = true := by
  intro a
  induction a with
  | nil =>
    intro b c h1 h2
    cases c with
    | nil => cases b <;> simp [strLess] at h2
    | cons z s => rfl
  | cons x r ih =>
    intro b c h1 h2
    cases b with
    | nil => simp [strLess] at h1
    | cons y q =>
      cases c with
      | nil => simp [strLess] at h2
      | cons z s =>
        simp only [strLess, Bool.or_eq_true, decide_eq_true_eq, Bool.and_eq_true] at h1 h2 ⊢
        rcases h1 with h1 | ⟨h1, h3⟩
        · rcases h2 with h2 | ⟨h2, _⟩
          · left; omega
          · left; omega
        · rcases h2 with h2 | ⟨h2, h4⟩
          · left; omega
          · exact Or.inr ⟨by omega, ih q s h3 h4⟩

theorem less_not (a b : List Int) : (!strLess a b) = (strLess b a || decide (b = a)) := by
  cases h : strLess a b with
  | false =>
    rcases less_total a b h with h1 | h1
    · simp [h1]
    · subst h1; simp
  | true =>
    have h1 : strLess b a = false := by
      cases h2 : strLess b a with
      | false => rfl
      | true => have := less_trans a b a h h2; rw [less_irrefl] at this; cases this
    have h2 : ¬ b = a := fun e => by subst e; rw [less_irrefl] at h; cases h
    simp [h1, h2]

abbrev Ent := List Int × Bool × Int × List Int

theorem getD_mem {t : List Ent} {i : Nat} (h : i < t.length) : t.getD i ([], (false, ((0 : Int), []))) ∈ t := by
  rw [List.getD_eq_getElem?_getD, List.getElem?_eq_getElem h]
  exact List.getElem_mem h

theorem entEq_eq (N : Nat) (a b : Ent) (ha : a.2.2.2.length ≤ 1048576) (hN : 1048577 < N) : fs_equal N a b = some (decide (a = b)) := by
  obtain ⟨a1, a2, a3, a4⟩ := a
  obtain ⟨b1, b2, b3, b4⟩ := b
  unfold fs_equal
  simp only [decide_eq_true_eq, beq_iff_eq]
  have ha : a4.length ≤ 1048576 := ha
  by_cases h1 : a1 = b1
  · rw [if_pos h1]
    by_cases h2 : a2 = b2
    · rw [if_pos h2]
      by_cases h3 : a3 = b3
      · rw [if_pos h3, bindO_of (equal_eq N a4 b4 (by omega) (by omega))]
        simp [bindO, h1, h2, h3]
      · rw [if_neg h3]; simp [bindO, h3]
    · rw [if_neg h2]; simp [bindO, h2]
  · rw [if_neg h1]; simp [bindO, h1]

theorem equalT_eq (N : Nat) (a b : List Ent) (ha : a.length ≤ 1048576) (hN : 1048577 < N) : wrackref2_Equal N a b = some (decide (a = b)) := by
  unfold wrackref2_Equal
  simp only [Bool.not_eq_true', decide_eq_false_iff_not]
  by_cases hl : a.length = b.length
  · rw [if_neg (by omega)]
    refine iter_rule (fun v => ∃ i : Nat, v = ((i : Int), ()) ∧ i ≤ a.length ∧ ∀ j, j < i → a.getD j ([], (false, ((0 : Int), []))) = b.getD j ([], (false, ((0 : Int), [])))) (fun v => a.length - v.1.toNat)
      (fun o => o = some (decide (a = b))) ?_ N _ ⟨0, rfl, Nat.zero_le _, fun j hj => absurd hj (Nat.not_lt_zero _)⟩ (by simp only; omega)
    rintro v again ⟨i, rfl, hi, hall⟩ hag
    unfold wrackref2_Equal.s0
    simp only [decide_eq_true_eq]
    by_cases hlt : i < a.length
    · rw [if_pos (by omega)]
      have g1 : inR (i : Int) (a.length : Int) = true := inR_of (by omega) (by omega)
      have g2 : inR (i : Int) (b.length : Int) = true := inR_of (by omega) (by omega)
      simp only [gate_pos g1, gate_pos g2, getI_nat]
      generalize hx : a.getD i ([], (false, ((0 : Int), []))) = x
      generalize hy : b.getD i ([], (false, ((0 : Int), []))) = y
      obtain ⟨a1, a2, a3, a4⟩ := x
      obtain ⟨b1, b2, b3, b4⟩ := y
      have body : (if (!decide (a1 = b1)) = true then some true else if (!(a2 == b2)) = true then some true else if (!decide (a3 = b3)) = true then some true else some (!decide (a4 = b4)) : Option Bool) = some (!decide ((a1, a2, a3, a4) = ((b1, b2, b3, b4) : Ent))) := by
        by_cases h1 : a1 = b1
        · by_cases h2 : a2 = b2
          · by_cases h3 : a3 = b3
            · simp [h1, h2, h3]
            · simp [h1, h2, h3]
          · simp [h1, h2]
        · simp [h1]
      simp only [body, bindO]
      by_cases h : (a1, a2, a3, a4) = ((b1, b2, b3, b4) : Ent)
      · rw [if_neg (by simpa using h), w64 (by omega) (by omega)]
        refine hag _ ⟨i + 1, by simp, by omega, fun j hj => ?_⟩ (by simp only; omega)
        rcases Nat.lt_or_eq_of_le (Nat.le_of_lt_succ hj) with h1 | h1
        · exact hall j h1
        · subst h1; rw [hx, hy]; exact h
      · rw [if_pos (by rw [decide_eq_false h]; rfl)]
        simp only [Option.some.injEq, Bool.false_eq, decide_eq_false_iff_not]
        exact fun e => h (by rw [← hx, ← hy, e])
    · rw [if_neg (by omega)]
      have : a = b := List.ext_getElem hl fun j h1 h2 => by
        have := hall j (by omega)
        rw [List.getD_eq_getElem?_getD, List.getElem?_eq_getElem h1, List.getD_eq_getElem?_getD, List.getElem?_eq_getElem h2] at this
        exact this
      simp [this]
  · rw [if_pos (by omega)]
    simp only [Option.some.injEq, Bool.false_eq, decide_eq_false_iff_not]
    exact fun e => hl (by rw [e])

def oneE (e : Ent) : Int :=
  if pathB e.1 = true then (if e.2.2.1 < 0 ∨ 4294967295 < e.2.2.1 then 21 else if 2048 < e.2.2.2.length then 2 else if e.2.1 = true ∧ 0 < e.2.2.2.length then 3 else 0) else 6

def findE (t : List Ent) (d : List Int) : Option Ent := t.find? fun e => decide (e.1 = d)

def dirE (t : List Ent) (i : Nat) : Int :=
  if dirI (t.getD i ([], (false, ((0 : Int), [])))).1 = [] then 0 else match findE (t.take i) (dirI (t.getD i ([], (false, ((0 : Int), [])))).1) with
    | none => 8
    | some x => if x.2.1 = true then 0 else 12

def errAt (t : List Ent) (i : Nat) : Int :=
  if oneE (t.getD i ([], (false, ((0 : Int), [])))) = 0 then (if 0 < i ∧ strLess (t.getD (i - 1) ([], (false, ((0 : Int), [])))).1 (t.getD i ([], (false, ((0 : Int), [])))).1 = false then 11 else dirE t i) else oneE (t.getD i ([], (false, ((0 : Int), []))))

/-- what is reported of a tree -/
def ResT (t : List Ent) (r : Int) : Prop :=
  (40 < t.length ∧ r = 9) ∨ (t.length ≤ 40 ∧ ((∃ i, i < t.length ∧ (∀ j, j < i → errAt t j = 0) ∧ errAt t i ≠ 0 ∧ r = errAt t i) ∨ ((∀ j, j < t.length → errAt t j = 0) ∧ r = 0)))

theorem resT_unique {t : List Ent} {r q : Int} (h1 : ResT t r) (h2 : ResT t q) : r = q := by
  rcases h1 with ⟨a1, a2⟩ | ⟨a1, a2⟩
  · rcases h2 with ⟨b1, b2⟩ | ⟨b1, b2⟩
    · rw [a2, b2]
    · omega
  · rcases h2 with ⟨b1, b2⟩ | ⟨b1, b2⟩
    · omega
    · rcases a2 with ⟨i, i1, i2, i3, i4⟩ | ⟨i1, i2⟩
      · rcases b2 with ⟨k, k1, k2, k3, k4⟩ | ⟨k1, k2⟩
        · have : i = k := by
            rcases Nat.lt_trichotomy i k with h | h | h
            · exact absurd (k2 i h) i3
            · exact h
            · exact absurd (i2 k h) k3
          subst this
          rw [i4, k4]
        · exact absurd (k1 i i1) i3
      · rcases b2 with ⟨k, k1, k2, k3, k4⟩ | ⟨k1, k2⟩
        · exact absurd (i1 k k1) k3
        · rw [i2, k2]

theorem one_eq (N : Nat) (e : Ent) (he : e.1.length ≤ 1048576) (hN : 1048577 < N) : fs_one N e = some (oneE e) := by
  obtain ⟨p, d, m, b⟩ := e
  unfold fs_one oneE
  rw [bindO_of (path_eq N _ he hN)]
  simp only [Bool.not_eq_true', decide_eq_false_iff_not, decide_eq_true_eq]
  by_cases hp : pathB p = true
  · rw [if_pos hp, if_neg (by simp), if_pos hp]
    by_cases hm : m < 0 ∨ 4294967295 < m
    · rw [if_pos hm]
      have : (if m < 0 then some true else some (decide (m > 4294967295)) : Option Bool) = some true := by
        by_cases h : m < 0
        · rw [if_pos h]
        · rw [if_neg h]; simp; omega
      rw [this]; rfl
    · rw [if_neg hm]
      have : (if m < 0 then some true else some (decide (m > 4294967295)) : Option Bool) = some false := by
        rw [if_neg (by omega)]; simp; omega
      rw [this]
      simp only [bindO, Bool.false_eq_true, if_false]
      by_cases hb : 2048 < b.length
      · rw [if_pos (by omega), if_pos hb]
      · rw [if_neg (by omega), if_neg hb]
        cases d with
        | false => simp [bindO]
        | true =>
          simp only [if_true, bindO, decide_eq_true_eq, true_and]
          by_cases h0 : 0 < b.length
          · rw [if_pos (by omega), if_pos h0]
          · rw [if_neg (by omega), if_neg h0]
  · rw [if_neg hp, if_pos (by decide), if_neg hp]

/-- the search for a directory -/
theorem dirLoop {R : Type} (N : Nat) (s : R) (k0 : (List Int × Bool × Int × List Int × List Int × Unit) → R) (kr : (List Int × Bool × Int × List Int × List Int × Int × Unit) → R) (t : List Ent) (a1 : List Int) (a2 : Bool) (a3 : Int) (a4 d : List Int)
    (ht : t.length ≤ 1048576) (Q : R → Prop) (h0 : findE t d = none → Q (k0 (a1, a2, a3, a4, d, ())))
    (h1 : ∀ i, i < t.length → findE t d = some (t.getD i ([], (false, ((0 : Int), [])))) → Q (kr (a1, a2, a3, a4, d, (i : Int), ()))) (n : Nat) (hn : t.length < n) :
    Q (iter (fs_Check_i0_slices_IndexFunc.s0 N s k0 kr (t, (t.length : Int), ())) s n (a1, a2, a3, a4, d, (0 : Int), ())) := by
  refine iter_rule (fun v => ∃ i : Nat, v = (a1, a2, a3, a4, d, (i : Int), ()) ∧ i ≤ t.length ∧ ∀ j, j < i → (t.getD j ([], (false, ((0 : Int), [])))).1 ≠ d) (fun v => t.length - v.2.2.2.2.2.1.toNat) Q ?_ n _ ⟨0, rfl, Nat.zero_le _, fun j hj => absurd hj (Nat.not_lt_zero _)⟩ (by simp only; omega)
  rintro v again ⟨i, rfl, hi, hall⟩ hag
  unfold fs_Check_i0_slices_IndexFunc.s0
  simp only [decide_eq_true_eq]
  by_cases hlt : i < t.length
  · rw [if_pos (by omega), gate_pos (inR_of (by omega) (by omega)), getI_nat]
    by_cases h : (t.getD i ([], (false, ((0 : Int), [])))).1 = d
    · rw [if_pos h]
      refine h1 i hlt ?_
      unfold findE
      rw [List.find?_eq_some_iff_getElem]
      refine ⟨by simpa using h, i, hlt, ?_, fun j hj => ?_⟩
      · rw [List.getD_eq_getElem?_getD, List.getElem?_eq_getElem hlt]; rfl
      · have := hall j hj
        rw [List.getD_eq_getElem?_getD, List.getElem?_eq_getElem (by omega)] at this
        simpa using this
    · rw [if_neg h, w64 (by omega) (by omega)]
      refine hag _ ⟨i + 1, by simp, by omega, fun j hj => ?_⟩ (by simp only; omega)
      rcases Nat.lt_or_eq_of_le (Nat.le_of_lt_succ hj) with h2 | h2
      · exact hall j h2
      · subst h2; exact h
  · rw [if_neg (by omega)]
    refine h0 ?_
    unfold findE
    rw [List.find?_eq_none]
    intro e he
    obtain ⟨j, hj, rfl⟩ := List.getElem_of_mem he
    have := hall j (by omega)
    rw [List.getD_eq_getElem?_getD, List.getElem?_eq_getElem hj] at this
    simpa using this

theorem cut_take (t : List Ent) (i : Nat) : cut t (0 : Int) (i : Int) = t.take i := by
  have := cut_nat t 0 i (Nat.zero_le _)
  simpa using this

theorem check_res (N : Nat) (t : List Ent) (hp : ∀ e ∈ t, e.1.length ≤ 1048576) (hN : 1048577 < N) : ∃ r, fs_Check N t = some r ∧ ResT t r := by
  unfold fs_Check
  simp only [decide_eq_true_eq]
  by_cases h40 : 40 < t.length
  · rw [if_pos (by omega)]
    exact ⟨9, rfl, Or.inl ⟨h40, rfl⟩⟩
  · rw [if_neg (by omega)]
    refine iter_rule (fun v => ∃ i : Nat, v = ((i : Int), ()) ∧ i ≤ t.length ∧ ∀ j, j < i → errAt t j = 0) (fun v => t.length - v.1.toNat)
      (fun o => ∃ r, o = some r ∧ ResT t r) ?_ N _ ⟨0, rfl, Nat.zero_le _, fun j hj => absurd hj (Nat.not_lt_zero _)⟩ (by simp only; omega)
    rintro v again ⟨i, rfl, hi, hall⟩ hag
    unfold fs_Check.s0
    simp only [decide_eq_true_eq]
    by_cases hlt : i < t.length
    · have stop : ∀ r : Int, errAt t i = r → r ≠ 0 → ∃ q, (some r : Option Int) = some q ∧ ResT t q := fun r h1 h2 => ⟨r, rfl, Or.inr ⟨by omega, Or.inl ⟨i, hlt, hall, by rw [h1]; exact h2, h1.symm⟩⟩⟩
      have go : errAt t i = 0 → ∃ q, again ((i : Int) + 1, ()) = some q ∧ ResT t q := fun h => hag _ ⟨i + 1, by simp, by omega, fun j hj => by
        rcases Nat.lt_or_eq_of_le (Nat.le_of_lt_succ hj) with h2 | h2
        · exact hall j h2
        · subst h2; exact h⟩ (by simp only; omega)
      rw [if_pos (by omega), gate_pos (inR_of (by omega) (by omega)), getI_nat, bindO_of (one_eq N _ (hp _ (getD_mem hlt)) hN)]
      by_cases h1 : oneE (t.getD i ([], (false, ((0 : Int), [])))) = 0
      · rw [if_neg (by simpa using h1)]
        have hcond : (if (i : Int) > 0 then gate (inR (IntKind.wrap .i64 ((i : Int) - 1)) (t.length : Int)) (some (!strLess (getI ([], (false, ((0 : Int), []))) t (IntKind.wrap .i64 ((i : Int) - 1))).1 (t.getD i ([], (false, ((0 : Int), [])))).1)) none else some false : Option Bool) =
            some (decide (0 < i ∧ strLess (t.getD (i - 1) ([], (false, ((0 : Int), [])))).1 (t.getD i ([], (false, ((0 : Int), [])))).1 = false)) := by
          by_cases h0 : 0 < i
          · rw [if_pos (by omega), w64 (by omega) (by omega), gate_pos (inR_of (by omega) (by omega))]
            have e : (i : Int) - 1 = ((i - 1 : Nat) : Int) := by omega
            rw [e, getI_nat]
            cases strLess (t.getD (i - 1) ([], (false, ((0 : Int), [])))).1 (t.getD i ([], (false, ((0 : Int), [])))).1 <;> simp [h0]
          · rw [if_neg (by omega)]
            simp [h0]
        rw [bindO_of hcond]
        by_cases h2 : 0 < i ∧ strLess (t.getD (i - 1) ([], (false, ((0 : Int), [])))).1 (t.getD i ([], (false, ((0 : Int), [])))).1 = false
        · rw [if_pos (by simpa using h2)]
          exact stop 11 (by unfold errAt; rw [if_pos h1, if_pos h2]) (by decide)
        · rw [if_neg (by simpa using h2), bindO_of (dir_eq N _ (hp _ (getD_mem hlt)) hN)]
          have hE : errAt t i = dirE t i := by unfold errAt; rw [if_pos h1, if_neg h2]
          by_cases hd : dirI (t.getD i ([], (false, ((0 : Int), [])))).1 = []
          · rw [if_neg (by simpa using hd), w64 (by omega) (by omega)]
            exact go (by rw [hE]; unfold dirE; rw [if_pos hd])
          · rw [if_pos (by simpa using hd), gate_pos (bounds_of (by omega) (by omega) (by omega)), cut_take]
            refine dirLoop N none _ _ (t.take i) _ _ _ _ _ (by rw [List.length_take]; omega) (fun o => ∃ q, o = some q ∧ ResT t q) (fun hnone => ?_) (fun k hk hsome => ?_) N (by rw [List.length_take]; omega)
            · rw [if_pos (by decide)]
              exact stop 8 (by rw [hE]; unfold dirE; rw [if_neg hd, hnone]) (by decide)
            · rw [List.length_take] at hk
              have hke : (t.take i).getD k ([], (false, ((0 : Int), []))) = t.getD k ([], (false, ((0 : Int), []))) := by
                rw [List.getD_eq_getElem?_getD, List.getD_eq_getElem?_getD, List.getElem?_take_of_lt (by omega)]
              rw [hke] at hsome
              simp only
              rw [if_neg (by omega), gate_pos (inR_of (by omega) (by omega)), getI_nat]
              cases hx : (t.getD k ([], (false, ((0 : Int), [])))).2.1 with
              | true =>
                rw [if_neg (by decide), w64 (by omega) (by omega)]
                exact go (by rw [hE]; unfold dirE; rw [if_neg hd, hsome]; simp only; rw [if_pos hx])
              | false =>
                rw [if_pos (by decide)]
                exact stop 12 (by rw [hE]; unfold dirE; rw [if_neg hd, hsome]; simp only; rw [if_neg (by rw [hx]; decide)]) (by decide)
      · rw [if_pos (by simpa using h1)]
        exact stop _ (by unfold errAt; rw [if_neg h1]) h1
    · rw [if_neg (by omega)]
      exact ⟨0, rfl, Or.inr ⟨by omega, Or.inr ⟨fun j hj => hall j (by omega), rfl⟩⟩⟩

theorem findE_snoc (t : List Ent) (i : Nat) (hi : i < t.length) (d : List Int) : findE (t.take (i + 1)) d = (findE (t.take i) d).or (if (t.getD i ([], (false, ((0 : Int), [])))).1 = d then some (t.getD i ([], (false, ((0 : Int), [])))) else none) := by
  unfold findE
  rw [List.take_add_one, List.find?_append, List.getElem?_eq_getElem hi, List.getD_eq_getElem?_getD, List.getElem?_eq_getElem hi]
  simp only [Option.toList_some, Option.getD_some, List.find?_cons, List.find?_nil]
  congr 1
  by_cases h : t[i].1 = d
  · simp [h]
  · simp [h]

theorem errAt_zero {t : List Ent} {i : Nat} (h : errAt t i = 0) : oneE (t.getD i ([], (false, ((0 : Int), [])))) = 0 ∧ (0 < i → strLess (t.getD (i - 1) ([], (false, ((0 : Int), [])))).1 (t.getD i ([], (false, ((0 : Int), [])))).1 = true) ∧ dirE t i = 0 := by
  unfold errAt at h
  by_cases h1 : oneE (t.getD i ([], (false, ((0 : Int), [])))) = 0
  · rw [if_pos h1] at h
    by_cases h2 : 0 < i ∧ strLess (t.getD (i - 1) ([], (false, ((0 : Int), [])))).1 (t.getD i ([], (false, ((0 : Int), [])))).1 = false
    · rw [if_pos h2] at h; exact absurd h (by decide)
    · rw [if_neg h2] at h
      refine ⟨h1, fun h0 => ?_, h⟩
      cases h3 : strLess (t.getD (i - 1) ([], (false, ((0 : Int), [])))).1 (t.getD i ([], (false, ((0 : Int), [])))).1 with
      | true => rfl
      | false => exact absurd ⟨h0, h3⟩ h2
  · rw [if_neg h1] at h
    exact absurd h h1

theorem rising {t : List Ent} {i : Nat} (h : ∀ j, j < i → errAt t j = 0) (hi : 0 < i → strLess (t.getD (i - 1) ([], (false, ((0 : Int), [])))).1 (t.getD i ([], (false, ((0 : Int), [])))).1 = true) : ∀ j, j < i → strLess (t.getD j ([], (false, ((0 : Int), [])))).1 (t.getD i ([], (false, ((0 : Int), [])))).1 = true := by
  have key : ∀ n j, j + n + 1 = i → strLess (t.getD j ([], (false, ((0 : Int), [])))).1 (t.getD i ([], (false, ((0 : Int), [])))).1 = true := by
    intro n
    induction n with
    | zero =>
      intro j hj
      have := hi (by omega)
      have e : i - 1 = j := by omega
      rw [e] at this
      exact this
    | succ n ih =>
      intro j hj
      have h1 := (errAt_zero (h (j + 1) (by omega))).2.1 (by omega)
      exact less_trans _ _ _ h1 (ih (j + 1) (by omega))
  intro j hj
  exact key (i - j - 1) j (by omega)

theorem time_if (m : Int) : (if m < 0 then some true else some (decide (m ≥ 4294967296)) : Option Bool) = some (decide (m < 0 ∨ 4294967295 < m)) := by
  by_cases h : m < 0
  · rw [if_pos h, decide_eq_true (Or.inl h)]
  · rw [if_neg h]
    congr 1
    rw [decide_eq_decide]
    omega

theorem form_if (d : Bool) (n : Nat) : (if (n : Int) > 0 then some d else some false : Option Bool) = some (decide (d = true ∧ 0 < n)) := by
  by_cases h : 0 < n
  · rw [if_pos (by omega)]
    cases d <;> simp [h]
  · rw [if_neg (by omega)]
    simp [h]

theorem treeErr_res (N : Nat) (t : List Ent) (hp : ∀ e ∈ t, e.1.length ≤ 1048576) (hN : 1048577 < N) : ∃ r, wrackref2_TreeErr N t = some r ∧ ResT t r := by
  unfold wrackref2_TreeErr
  simp only [decide_eq_true_eq]
  by_cases h40 : 40 < t.length
  · rw [if_pos (by omega)]
    exact ⟨9, rfl, Or.inl ⟨h40, rfl⟩⟩
  · rw [if_neg (by omega)]
    refine iter_rule (fun v => ∃ (dirs : List (List Int × Bool)) (last : List Int) (i : Nat), v = (dirs, last, (i : Int), ()) ∧ i ≤ t.length ∧ (∀ j, j < i → errAt t j = 0) ∧ (0 < i → last = (t.getD (i - 1) ([], (false, ((0 : Int), [])))).1) ∧
        ∀ d, mapGet (k := .str) (v := .bool) dirs d = (findE (t.take i) d).map (·.2.1)) (fun v => t.length - v.2.2.1.toNat)
      (fun o => ∃ r, o = some r ∧ ResT t r) ?_ N _ ⟨[], [], 0, rfl, Nat.zero_le _, fun j hj => absurd hj (Nat.not_lt_zero _), fun h => absurd h (Nat.lt_irrefl _), fun d => rfl⟩ (by simp only; omega)
    rintro v again ⟨dirs, last, i, rfl, hi, hall, hlast, hmap⟩ hag
    unfold wrackref2_TreeErr.s0
    simp only [decide_eq_true_eq]
    by_cases hlt : i < t.length
    · have stop : ∀ r : Int, errAt t i = r → r ≠ 0 → ∃ q, (some r : Option Int) = some q ∧ ResT t q := fun r h1 h2 => ⟨r, rfl, Or.inr ⟨by omega, Or.inl ⟨i, hlt, hall, by rw [h1]; exact h2, h1.symm⟩⟩⟩
      have go : errAt t i = 0 → ∃ q, again (mapPut (k := .str) (v := .bool) dirs (t.getD i ([], (false, ((0 : Int), [])))).1 (t.getD i ([], (false, ((0 : Int), [])))).2.1, (t.getD i ([], (false, ((0 : Int), [])))).1, (i : Int) + 1, ()) = some q ∧ ResT t q := fun h => hag _ ⟨_, _, i + 1, rfl, by omega, fun j hj => by
          rcases Nat.lt_or_eq_of_le (Nat.le_of_lt_succ hj) with h2 | h2
          · exact hall j h2
          · subst h2; exact h, fun _ => by simp only [Nat.add_sub_cancel], fun d => by
          rw [mapGet_put, findE_snoc t i hlt, hmap]
          by_cases hd : d = (t.getD i ([], (false, ((0 : Int), [])))).1
          · rw [if_pos hd, if_pos hd.symm]
            have : findE (t.take i) d = none := by
              unfold findE
              rw [List.find?_eq_none]
              intro e he hde
              obtain ⟨j, hj, rfl⟩ := List.getElem_of_mem he
              rw [List.length_take] at hj
              have h3 := rising hall (errAt_zero h).2.1 j (by omega)
              rw [List.getElem_take] at hde
              simp only [decide_eq_true_eq] at hde
              rw [List.getD_eq_getElem?_getD, List.getElem?_eq_getElem (by omega)] at h3
              simp only [Option.getD_some] at h3
              rw [hde, hd, less_irrefl] at h3
              cases h3
            rw [this]; rfl
          · rw [if_neg hd, if_neg (fun e => hd e.symm), Option.or_none]⟩ (by simp only; omega)
      have hw := hp _ (getD_mem hlt)
      rw [if_pos (by omega), gate_pos (inR_of (by omega) (by omega)), getI_nat, bindO_of (way_eq N _ hw hN)]
      by_cases hpb : pathB (t.getD i ([], (false, ((0 : Int), [])))).1 = true
      · rw [if_neg (by rw [hpb]; decide)]
        rw [bindO_of (time_if _)]
        by_cases hm : (t.getD i ([], (false, ((0 : Int), [])))).2.2.1 < 0 ∨ 4294967295 < (t.getD i ([], (false, ((0 : Int), [])))).2.2.1
        · rw [if_pos (decide_eq_true hm)]
          exact stop 21 (by unfold errAt oneE; rw [if_pos hpb, if_pos hm, if_neg (by decide)]) (by decide)
        · rw [if_neg (by rw [decide_eq_false hm]; decide)]
          by_cases hb : 2048 < (t.getD i ([], (false, ((0 : Int), [])))).2.2.2.length
          · rw [if_pos (by omega)]
            exact stop 2 (by unfold errAt oneE; rw [if_pos hpb, if_neg hm, if_pos hb, if_neg (by decide)]) (by decide)
          · rw [if_neg (by omega)]
            rw [bindO_of (form_if _ _)]
            by_cases hf : (t.getD i ([], (false, ((0 : Int), [])))).2.1 = true ∧ 0 < (t.getD i ([], (false, ((0 : Int), [])))).2.2.2.length
            · rw [if_pos (decide_eq_true hf)]
              exact stop 3 (by unfold errAt oneE; rw [if_pos hpb, if_neg hm, if_neg hb, if_pos hf, if_neg (by decide)]) (by decide)
            · rw [if_neg (by rw [decide_eq_false hf]; decide)]
              have h1 : oneE (t.getD i ([], (false, ((0 : Int), [])))) = 0 := by unfold oneE; rw [if_pos hpb, if_neg hm, if_neg hb, if_neg hf]
              have h4 : (if (i : Int) > 0 then some (strLess (t.getD i ([], (false, ((0 : Int), [])))).1 last || decide ((t.getD i ([], (false, ((0 : Int), [])))).1 = last)) else some false : Option Bool) = some (decide (0 < i ∧ strLess (t.getD (i - 1) ([], (false, ((0 : Int), [])))).1 (t.getD i ([], (false, ((0 : Int), [])))).1 = false)) := by
                by_cases h0 : 0 < i
                · rw [if_pos (by omega), hlast h0, ← less_not]
                  cases strLess (t.getD (i - 1) ([], (false, ((0 : Int), [])))).1 (t.getD i ([], (false, ((0 : Int), [])))).1 <;> simp [h0]
                · rw [if_neg (by omega)]; simp [h0]
              rw [bindO_of h4]
              by_cases h2 : 0 < i ∧ strLess (t.getD (i - 1) ([], (false, ((0 : Int), [])))).1 (t.getD i ([], (false, ((0 : Int), [])))).1 = false
              · rw [if_pos (by simpa using h2)]
                exact stop 11 (by unfold errAt; rw [if_pos h1, if_pos h2]) (by decide)
              · rw [if_neg (by simpa using h2), bindO_of (above_eq N _ hw)]
                have hE : errAt t i = dirE t i := by unfold errAt; rw [if_pos h1, if_neg h2]
                by_cases hd : dirI (t.getD i ([], (false, ((0 : Int), [])))).1 = []
                · rw [if_neg (by simpa using hd), w64 (by omega) (by omega)]
                  exact go (by rw [hE]; unfold dirE; rw [if_pos hd])
                · rw [if_pos (by simpa using hd), hmap]
                  cases hfe : findE (t.take i) (dirI (t.getD i ([], (false, ((0 : Int), [])))).1) with
                  | none =>
                    rw [if_pos (by rfl)]
                    exact stop 8 (by rw [hE]; unfold dirE; rw [if_neg hd, hfe]) (by decide)
                  | some x =>
                    rw [if_neg (by simp)]
                    have hgd : ((Option.map (fun (x : Ent) => x.2.1) (some x)).getD false : Bool) = x.2.1 := rfl
                    rcases Bool.eq_false_or_eq_true x.2.1 with hx | hx
                    · rw [if_neg (by show ¬ (!(x.2.1 : Bool)) = true; rw [hx]; decide), w64 (by omega) (by omega)]
                      exact go (by rw [hE]; unfold dirE; rw [if_neg hd, hfe]; simp only; rw [if_pos hx])
                    · rw [if_pos (by show (!(x.2.1 : Bool)) = true; rw [hx]; rfl)]
                      exact stop 12 (by rw [hE]; unfold dirE; rw [if_neg hd, hfe]; simp only; rw [if_neg (by rw [hx]; decide)]) (by decide)
      · rw [if_pos (by simpa using hpb)]
        exact stop 6 (by unfold errAt oneE; rw [if_neg hpb, if_neg (by decide)]) (by decide)
    · rw [if_neg (by omega)]
      exact ⟨0, rfl, Or.inr ⟨by omega, Or.inr ⟨fun j hj => hall j (by omega), rfl⟩⟩⟩

theorem g_inR {R : Type} {i n : Int} {k s : R} (h1 : 0 ≤ i) (h2 : i < n) : gate (inR i n) k s = k := gate_pos (inR_of h1 h2)

theorem b_some {α R : Type} {a : α} {k : α → R} {s : R} : bindO (some a) k s = k a := rfl

abbrev Lin := Int × List Int

def Inc (t : List Ent) : Prop := t.Pairwise fun x y => strLess x.1 y.1 = true

theorem getD_ent {t : List Ent} {i : Nat} (h : i < t.length) : t.getD i ([], (false, ((0 : Int), []))) = t[i] := by
  rw [List.getD_eq_getElem?_getD, List.getElem?_eq_getElem h]
  rfl

theorem good_tree {t : List Ent} (h : ResT t 0) : t.length ≤ 40 ∧ (∀ e ∈ t, e.2.2.2.length ≤ 2048) ∧ Inc t := by
  rcases h with ⟨_, h⟩ | ⟨hl, ⟨i, _, _, hne, he⟩ | ⟨hall, _⟩⟩
  · exact absurd h (by decide)
  · exact absurd he.symm hne
  · refine ⟨hl, fun e he => ?_, ?_⟩
    · obtain ⟨i, hi, rfl⟩ := List.getElem_of_mem he
      have h1 := (errAt_zero (hall i hi)).1
      rw [getD_ent hi] at h1
      unfold oneE at h1
      split at h1
      · split at h1
        · omega
        · split at h1
          · omega
          · omega
      · omega
    · unfold Inc
      rw [List.pairwise_iff_getElem]
      intro i j hi hj hij
      have := rising (t := t) (i := j) (fun k hk => hall k (by omega)) (errAt_zero (hall j hj)).2.1 i hij
      rw [getD_ent hi, getD_ent hj] at this
      exact this

def diffM : List Ent → List Ent → List Lin
  | [], [] => []
  | x :: xs, [] => (45, x.1) :: diffM xs []
  | [], y :: ys => (43, y.1) :: diffM [] ys
  | x :: xs, y :: ys => if strLess x.1 y.1 = true then (45, x.1) :: diffM xs (y :: ys) else if strLess y.1 x.1 = true then (43, y.1) :: diffM (x :: xs) ys else (if x = y then [] else [(33, x.1)]) ++ diffM xs ys
termination_by xs ys => xs.length + ys.length

def MemL (xs ys : List Ent) (l : Lin) : Prop :=
  (∃ x ∈ xs, l = (45, x.1) ∧ ∀ y ∈ ys, y.1 ≠ x.1) ∨ (∃ x ∈ xs, ∃ y ∈ ys, y.1 = x.1 ∧ x ≠ y ∧ l = (33, x.1)) ∨ (∃ y ∈ ys, l = (43, y.1) ∧ ∀ x ∈ xs, x.1 ≠ y.1)

theorem less_ne {a b : List Int} (h : strLess a b = true) : b ≠ a := fun e => by
  rw [e, less_irrefl] at h; cases h

theorem memL_left {x : Ent} {xs ys : List Ent} (h : ∀ y ∈ ys, y.1 ≠ x.1) (l : Lin) : MemL (x :: xs) ys l ↔ l = (45, x.1) ∨ MemL xs ys l := by
  unfold MemL
  constructor
  · rintro (⟨z, hz, h1, h2⟩ | ⟨z, hz, y, hy, h1, h2, h3⟩ | ⟨y, hy, h1, h2⟩)
    · rcases List.mem_cons.1 hz with rfl | hz
      · exact Or.inl h1
      · exact Or.inr (Or.inl ⟨z, hz, h1, h2⟩)
    · rcases List.mem_cons.1 hz with rfl | hz
      · exact absurd h1 (h y hy)
      · exact Or.inr (Or.inr (Or.inl ⟨z, hz, y, hy, h1, h2, h3⟩))
    · exact Or.inr (Or.inr (Or.inr ⟨y, hy, h1, fun z hz => h2 z (List.mem_cons_of_mem _ hz)⟩))
  · rintro (h1 | ⟨z, hz, h1, h2⟩ | ⟨z, hz, y, hy, h1, h2, h3⟩ | ⟨y, hy, h1, h2⟩)
    · exact Or.inl ⟨x, List.mem_cons_self, h1, h⟩
    · exact Or.inl ⟨z, List.mem_cons_of_mem _ hz, h1, h2⟩
    · exact Or.inr (Or.inl ⟨z, List.mem_cons_of_mem _ hz, y, hy, h1, h2, h3⟩)
    · refine Or.inr (Or.inr ⟨y, hy, h1, fun z hz => ?_⟩)
      rcases List.mem_cons.1 hz with rfl | hz
      · exact (h y hy).symm
      · exact h2 z hz

theorem memL_right {y : Ent} {xs ys : List Ent} (h : ∀ x ∈ xs, x.1 ≠ y.1) (l : Lin) : MemL xs (y :: ys) l ↔ l = (43, y.1) ∨ MemL xs ys l := by
  unfold MemL
  constructor
  · rintro (⟨z, hz, h1, h2⟩ | ⟨z, hz, w, hw, h1, h2, h3⟩ | ⟨w, hw, h1, h2⟩)
    · exact Or.inr (Or.inl ⟨z, hz, h1, fun w hw => h2 w (List.mem_cons_of_mem _ hw)⟩)
    · rcases List.mem_cons.1 hw with rfl | hw
      · exact absurd h1.symm (h z hz)
      · exact Or.inr (Or.inr (Or.inl ⟨z, hz, w, hw, h1, h2, h3⟩))
    · rcases List.mem_cons.1 hw with rfl | hw
      · exact Or.inl h1
      · exact Or.inr (Or.inr (Or.inr ⟨w, hw, h1, h2⟩))
  · rintro (h1 | ⟨z, hz, h1, h2⟩ | ⟨z, hz, w, hw, h1, h2, h3⟩ | ⟨w, hw, h1, h2⟩)
    · exact Or.inr (Or.inr ⟨y, List.mem_cons_self, h1, h⟩)
    · refine Or.inl ⟨z, hz, h1, fun w hw => ?_⟩
      rcases List.mem_cons.1 hw with rfl | hw
      · exact (h z hz).symm
      · exact h2 w hw
    · exact Or.inr (Or.inl ⟨z, hz, w, List.mem_cons_of_mem _ hw, h1, h2, h3⟩)
    · exact Or.inr (Or.inr ⟨w, List.mem_cons_of_mem _ hw, h1, h2⟩)

theorem memL_both {x y : Ent} {xs ys : List Ent} (e : x.1 = y.1) (h1 : ∀ z ∈ xs, z.1 ≠ y.1) (h2 : ∀ z ∈ ys, z.1 ≠ x.1) (l : Lin) : MemL (x :: xs) (y :: ys) l ↔ (x ≠ y ∧ l = (33, x.1)) ∨ MemL xs ys l := by
  unfold MemL
  constructor
  · rintro (⟨z, hz, a1, a2⟩ | ⟨z, hz, w, hw, a1, a2, a3⟩ | ⟨w, hw, a1, a2⟩)
    · rcases List.mem_cons.1 hz with rfl | hz
      · exact absurd e.symm (a2 y List.mem_cons_self)
      · exact Or.inr (Or.inl ⟨z, hz, a1, fun w hw => a2 w (List.mem_cons_of_mem _ hw)⟩)
    · rcases List.mem_cons.1 hz with rfl | hz
      · rcases List.mem_cons.1 hw with rfl | hw
        · exact Or.inl ⟨a2, a3⟩
        · exact absurd a1 (h2 w hw)
      · rcases List.mem_cons.1 hw with rfl | hw
        · exact absurd a1.symm (h1 z hz)
        · exact Or.inr (Or.inr (Or.inl ⟨z, hz, w, hw, a1, a2, a3⟩))
    · rcases List.mem_cons.1 hw with rfl | hw
      · exact absurd e (a2 x List.mem_cons_self)
      · exact Or.inr (Or.inr (Or.inr ⟨w, hw, a1, fun z hz => a2 z (List.mem_cons_of_mem _ hz)⟩))
  · rintro (⟨a1, a2⟩ | ⟨z, hz, a1, a2⟩ | ⟨z, hz, w, hw, a1, a2, a3⟩ | ⟨w, hw, a1, a2⟩)
    · exact Or.inr (Or.inl ⟨x, List.mem_cons_self, y, List.mem_cons_self, e.symm, a1, a2⟩)
    · refine Or.inl ⟨z, List.mem_cons_of_mem _ hz, a1, fun w hw => ?_⟩
      rcases List.mem_cons.1 hw with rfl | hw
      · exact (h1 z hz).symm
      · exact a2 w hw
    · exact Or.inr (Or.inl ⟨z, List.mem_cons_of_mem _ hz, w, List.mem_cons_of_mem _ hw, a1, a2, a3⟩)
    · refine Or.inr (Or.inr ⟨w, List.mem_cons_of_mem _ hw, a1, fun z hz => ?_⟩)
      rcases List.mem_cons.1 hz with rfl | hz
      · exact (h2 w hw).symm
      · exact a2 z hz

theorem inc_above {x : Ent} {xs : List Ent} (h : Inc (x :: xs)) : ∀ z ∈ xs, strLess x.1 z.1 = true := (List.pairwise_cons.1 h).1

theorem inc_tail {x : Ent} {xs : List Ent} (h : Inc (x :: xs)) : Inc xs := (List.pairwise_cons.1 h).2

/-- all from x on are above what is below x -/
theorem inc_all {p : List Int} {x : Ent} {xs : List Ent} (h : Inc (x :: xs)) (hp : strLess p x.1 = true) : ∀ z ∈ x :: xs, strLess p z.1 = true := fun z hz => by
  rcases List.mem_cons.1 hz with rfl | hz
  · exact hp
  · exact less_trans _ _ _ hp (inc_above h z hz)

theorem diff_mem (xs ys : List Ent) : Inc xs → Inc ys → ∀ l, l ∈ diffM xs ys ↔ MemL xs ys l := by
  induction xs, ys using diffM.induct with
  | case1 => intro _ _ l; simp [diffM, MemL]
  | case2 x xs ih =>
    intro hx hy l
    rw [diffM, List.mem_cons, ih (inc_tail hx) hy, memL_left (fun y hy => by cases hy)]
  | case3 y ys ih =>
    intro hx hy l
    rw [diffM, List.mem_cons, ih hx (inc_tail hy), memL_right (fun y hy => by cases hy)]
  | case4 x xs y ys h ih =>
    intro hx hy l
    rw [diffM, if_pos h, List.mem_cons, ih (inc_tail hx) hy, memL_left (fun z hz => less_ne (inc_all hy h z hz))]
  | case5 x xs y ys h1 h2 ih =>
    intro hx hy l
    rw [diffM, if_neg h1, if_pos h2, List.mem_cons, ih hx (inc_tail hy), memL_right (fun z hz => less_ne (inc_all hx h2 z hz))]
  | case6 x xs y ys h1 h2 ih =>
    intro hx hy l
    have e : x.1 = y.1 := by
      rcases less_total x.1 y.1 (by simpa using h1) with h | h
      · exact absurd h h2
      · exact h
    rw [diffM, if_neg h1, if_neg h2, List.mem_append, ih (inc_tail hx) (inc_tail hy), memL_both e (fun z hz => by rw [← e]; exact less_ne (inc_above hx z hz)) (fun z hz => by rw [e]; exact less_ne (inc_above hy z hz))]
    by_cases hxy : x = y
    · simp [hxy]
    · simp [hxy]

theorem memL_path {xs ys : List Ent} {l : Lin} (h : MemL xs ys l) : (∃ x ∈ xs, l.2 = x.1) ∨ (∃ y ∈ ys, l.2 = y.1) := by
  rcases h with ⟨x, hx, e, _⟩ | ⟨x, hx, _, _, _, _, e⟩ | ⟨y, hy, e, _⟩
  · exact Or.inl ⟨x, hx, by rw [e]⟩
  · exact Or.inl ⟨x, hx, by rw [e]⟩
  · exact Or.inr ⟨y, hy, by rw [e]⟩

theorem diff_above {xs ys : List Ent} {p : List Int} (hx : Inc xs) (hy : Inc ys) (h1 : ∀ z ∈ xs, strLess p z.1 = true) (h2 : ∀ z ∈ ys, strLess p z.1 = true) : ∀ l ∈ diffM xs ys, strLess p l.2 = true := by
  intro l hl
  rcases memL_path ((diff_mem xs ys hx hy l).1 hl) with ⟨z, hz, e⟩ | ⟨z, hz, e⟩
  · rw [e]; exact h1 z hz
  · rw [e]; exact h2 z hz

theorem diff_sorted (xs ys : List Ent) : Inc xs → Inc ys → (diffM xs ys).Pairwise fun x y => strLess x.2 y.2 = true := by
  induction xs, ys using diffM.induct with
  | case1 => intro _ _; simp [diffM]
  | case2 x xs ih =>
    intro hx hy
    rw [diffM]
    exact List.Pairwise.cons (diff_above (inc_tail hx) hy (inc_above hx) (fun z hz => by cases hz)) (ih (inc_tail hx) hy)
  | case3 y ys ih =>
    intro hx hy
    rw [diffM]
    exact List.Pairwise.cons (diff_above hx (inc_tail hy) (fun z hz => by cases hz) (inc_above hy)) (ih hx (inc_tail hy))
  | case4 x xs y ys h ih =>
    intro hx hy
    rw [diffM, if_pos h]
    exact List.Pairwise.cons (diff_above (inc_tail hx) hy (inc_above hx) (inc_all hy h)) (ih (inc_tail hx) hy)
  | case5 x xs y ys h1 h2 ih =>
    intro hx hy
    rw [diffM, if_neg h1, if_pos h2]
    exact List.Pairwise.cons (diff_above hx (inc_tail hy) (inc_all hx h2) (inc_above hy)) (ih hx (inc_tail hy))
  | case6 x xs y ys h1 h2 ih =>
    intro hx hy
    have e : x.1 = y.1 := by
      rcases less_total x.1 y.1 (by simpa using h1) with h | h
      · exact absurd h h2
      · exact h
    rw [diffM, if_neg h1, if_neg h2]
    by_cases hxy : x = y
    · rw [if_pos hxy]
      exact ih (inc_tail hx) (inc_tail hy)
    · rw [if_neg hxy]
      exact List.Pairwise.cons (diff_above (inc_tail hx) (inc_tail hy) (inc_above hx) (fun z hz => by show strLess x.1 z.1 = true; rw [e]; exact inc_above hy z hz)) (ih (inc_tail hx) (inc_tail hy))

def lineA (b : List Ent) (x : Ent) : Option Lin := match findE b x.1 with
  | none => some (45, x.1)
  | some y => if x = y then none else some (33, x.1)

def lineB (a : List Ent) (y : Ent) : Option Lin := match findE a y.1 with
  | none => some (43, y.1)
  | some _ => none

def wantI (a b : List Ent) : List Lin := a.filterMap (lineA b) ++ b.filterMap (lineB a)

theorem findE_some {t : List Ent} {p : List Int} {e : Ent} (h : findE t p = some e) : e ∈ t ∧ e.1 = p := by
  unfold findE at h
  refine ⟨List.mem_of_find?_eq_some h, ?_⟩
  have := List.find?_some h
  simpa using this

theorem findE_none {t : List Ent} {p : List Int} (h : findE t p = none) : ∀ e ∈ t, e.1 ≠ p := by
  unfold findE at h
  rw [List.find?_eq_none] at h
  intro e he
  have := h e he
  simpa using this

theorem inc_unique {t : List Ent} (h : Inc t) {x y : Ent} (hx : x ∈ t) (hy : y ∈ t) (e : x.1 = y.1) : x = y := by
  obtain ⟨i, hi, rfl⟩ := List.getElem_of_mem hx
  obtain ⟨j, hj, rfl⟩ := List.getElem_of_mem hy
  unfold Inc at h
  rw [List.pairwise_iff_getElem] at h
  rcases Nat.lt_trichotomy i j with hij | hij | hij
  · exact absurd e.symm (less_ne (h i j hi hj hij))
  · subst hij; rfl
  · exact absurd e (less_ne (h j i hj hi hij))

theorem lineA_some {b : List Ent} {x : Ent} {l : Lin} (h : lineA b x = some l) : l.2 = x.1 := by
  unfold lineA at h
  split at h
  · cases h; rfl
  · split at h
    · cases h
    · cases h; rfl

theorem lineB_some {a : List Ent} {y : Ent} {l : Lin} (h : lineB a y = some l) : l.2 = y.1 ∧ ∀ x ∈ a, x.1 ≠ y.1 := by
  unfold lineB at h
  split at h
  · rename_i hf
    cases h
    exact ⟨rfl, findE_none hf⟩
  · cases h

theorem want_mem {a b : List Ent} (ha : Inc a) (hb : Inc b) (l : Lin) : l ∈ wantI a b ↔ MemL a b l := by
  unfold wantI MemL
  rw [List.mem_append, List.mem_filterMap, List.mem_filterMap]
  constructor
  · rintro (⟨x, hx, h⟩ | ⟨y, hy, h⟩)
    · unfold lineA at h
      split at h
      · rename_i hf
        cases h
        exact Or.inl ⟨x, hx, rfl, findE_none hf⟩
      · rename_i y hf
        split at h
        · cases h
        · rename_i hne
          cases h
          obtain ⟨h1, h2⟩ := findE_some hf
          exact Or.inr (Or.inl ⟨x, hx, y, h1, h2, hne, rfl⟩)
    · have h2 := (lineB_some h).2
      unfold lineB at h
      split at h
      · cases h
        exact Or.inr (Or.inr ⟨y, hy, rfl, h2⟩)
      · cases h
  · rintro (⟨x, hx, e, h⟩ | ⟨x, hx, y, hy, e1, hne, e⟩ | ⟨y, hy, e, h⟩)
    · refine Or.inl ⟨x, hx, ?_⟩
      unfold lineA
      cases hf : findE b x.1 with
      | none => rw [e]
      | some y =>
        obtain ⟨h1, h2⟩ := findE_some hf
        exact absurd h2 (h y h1)
    · refine Or.inl ⟨x, hx, ?_⟩
      unfold lineA
      cases hf : findE b x.1 with
      | none => exact absurd e1 (findE_none hf y hy)
      | some z =>
        obtain ⟨h1, h2⟩ := findE_some hf
        have : z = y := inc_unique hb h1 hy (h2.trans e1.symm)
        subst this
        simp only [if_neg hne, e]
    · refine Or.inr ⟨y, hy, ?_⟩
      unfold lineB
      cases hf : findE a y.1 with
      | none => rw [e]
      | some z =>
        obtain ⟨h1, h2⟩ := findE_some hf
        exact absurd h2 (h z h1)

theorem want_apart {a b : List Ent} (ha : Inc a) (hb : Inc b) : (wantI a b).Pairwise fun l m => l.2 ≠ m.2 := by
  unfold wantI
  rw [List.pairwise_append]
  refine ⟨?_, ?_, fun l hl m hm => ?_⟩
  · rw [List.pairwise_filterMap]
    refine ha.imp fun {x y} h l hl m hm => ?_
    rw [lineA_some hl, lineA_some hm]
    exact (less_ne h).symm
  · rw [List.pairwise_filterMap]
    refine hb.imp fun {x y} h l hl m hm => ?_
    rw [(lineB_some hl).1, (lineB_some hm).1]
    exact (less_ne h).symm
  · obtain ⟨x, hx, h1⟩ := List.mem_filterMap.1 hl
    obtain ⟨y, hy, h2⟩ := List.mem_filterMap.1 hm
    rw [lineA_some h1, (lineB_some h2).1]
    exact (lineB_some h2).2 x hx

theorem apart_of {α : Type} {lt : α → α → Bool} : ∀ {xs : List α}, (xs.Pairwise fun x y => (lt x y || lt y x) = true) → apartB lt xs = true
  | [], _ => rfl
  | x :: r, h => by
    obtain ⟨h1, h2⟩ := List.pairwise_cons.1 h
    simp only [apartB, Bool.and_eq_true, List.all_eq_true]
    exact ⟨h1, apart_of h2⟩

theorem want_apartB {a b : List Ent} (ha : Inc a) (hb : Inc b) : apartB (fun (x y : Int × List Int) => strLess x.2 y.2) (wantI a b) = true := by
  refine apart_of ((want_apart ha hb).imp fun {l m} h => ?_)
  cases h1 : strLess l.2 m.2 with
  | true => rfl
  | false =>
    rcases less_total _ _ h1 with h2 | h2
    · rw [h2]; rfl
    · exact absurd h2 h

theorem diff_want {a b : List Ent} (ha : Inc a) (hb : Inc b) : sortBy (fun (x y : Int × List Int) => strLess x.2 y.2) (wantI a b) = diffM a b := by
  have hs := diff_sorted a b ha hb
  have hl : LtOK (fun (x y : Int × List Int) => strLess x.2 y.2) := LtOK.by strLess_ok fun x : Int × List Int => x.2
  refine (sortBy_unique hl (want_apartB ha hb) ?_ (hs.imp fun {x y} h => ?_)).symm
  · rw [List.perm_ext_iff_of_nodup]
    · intro l
      rw [diff_mem a b ha hb, want_mem ha hb]
    · exact hs.imp fun {x y} h e => by rw [e, less_irrefl] at h; cases h
    · exact (want_apart ha hb).imp fun {x y} h e => h (by rw [e])
  · cases h2 : strLess y.2 x.2 with
    | false => rfl
    | true => have := less_trans _ _ _ h h2; rw [less_irrefl] at this; cases this

theorem diff_len (xs ys : List Ent) : (diffM xs ys).length ≤ xs.length + ys.length := by
  induction xs, ys using diffM.induct with
  | case1 => simp [diffM]
  | case2 x xs ih => rw [diffM]; simp at ih ⊢; omega
  | case3 y ys ih => rw [diffM]; simp at ih ⊢; omega
  | case4 x xs y ys h ih => rw [diffM, if_pos h]; simp at ih ⊢; omega
  | case5 x xs y ys h1 h2 ih => rw [diffM, if_neg h1, if_pos h2]; simp at ih ⊢; omega
  | case6 x xs y ys h1 h2 ih =>
    rw [diffM, if_neg h1, if_neg h2]
    split <;> simp at ih ⊢ <;> omega

theorem drop_ent {t : List Ent} {i : Nat} (h : i < t.length) : t.drop i = t.getD i ([], (false, ((0 : Int), []))) :: t.drop (i + 1) := by
  rw [getD_ent h, List.drop_eq_getElem_cons h]

theorem merge_eq {R : Type} (N : Nat) (s : R) (k2 : (List Lin × Unit) → R) (a b : List Ent) (ha : a.length ≤ 40) (hb : b.length ≤ 40) (hd : ∀ e ∈ a, e.2.2.2.length ≤ 2048) (hN : 1048577 < N) (Q : R → Prop) (h : Q (k2 (diffM a b, ()))) :
    Q (iter (fs_Diff.s1 N s k2 (a, b, ())) s N ([], (0 : Int), (0 : Int), ())) := by
  refine iter_rule (fun v => ∃ (out : List Lin) (i k : Nat), v = (out, (i : Int), (k : Int), ()) ∧ i ≤ a.length ∧ k ≤ b.length ∧ out.length ≤ i + k ∧ out ++ diffM (a.drop i) (b.drop k) = diffM a b) (fun v => a.length + b.length - v.2.1.toNat - v.2.2.1.toNat) Q ?_ N _ ⟨[], 0, 0, rfl, Nat.zero_le _, Nat.zero_le _, by simp, rfl⟩ (by simp only; omega)
  rintro v again ⟨out, i, k, rfl, hi, hk, ho, hinv⟩ hag
  unfold fs_Diff.s1
  simp only [decide_eq_true_eq]
  have hmore : (if (i : Int) < (a.length : Int) then some true else some (decide ((k : Int) < (b.length : Int))) : Option Bool) = some (decide (i < a.length ∨ k < b.length)) := by
    by_cases h1 : i < a.length
    · rw [if_pos (by omega)]; simp [h1]
    · rw [if_neg (by omega)]; simp [h1]
  rw [bindO_of hmore]
  have step : ∀ (l : Lin) (i' k' : Nat), i' + k' = i + k + 1 → i' ≤ a.length → k' ≤ b.length → (out ++ [l]) ++ diffM (a.drop i') (b.drop k') = diffM a b → Q (again (out ++ [l], (i' : Int), (k' : Int), ())) := by
    intro l i' k' e h1 h2 h3
    exact hag _ ⟨_, i', k', rfl, h1, h2, by simp; omega, h3⟩ (by simp only; omega)
  by_cases hm : i < a.length ∨ k < b.length
  · rw [if_pos (decide_eq_true hm)]
    by_cases hbk : k = b.length
    · -- the second is at its end
      have hia : i < a.length := by omega
      have h1 : (if (k : Int) = (b.length : Int) then some true else if (i : Int) < (a.length : Int) then gate (inR (i : Int) (a.length : Int)) (gate (inR (k : Int) (b.length : Int)) (some (strLess (getI ([], (false, ((0 : Int), []))) a (i : Int)).1 (getI ([], (false, ((0 : Int), []))) b (k : Int)).1)) none) none else some false : Option Bool) = some true := by rw [if_pos (by omega)]
      rw [bindO_of h1, if_pos rfl, g_inR (by omega) (by omega), getI_nat, gate_pos (room_of (by simp; omega) (by simp; omega)), w64 (by omega) (by omega)]
      refine step _ (i + 1) k (by omega) (by omega) (by omega) ?_
      rw [drop_ent hia, hbk, List.drop_length, diffM] at hinv
      rw [hbk, List.drop_length, List.append_assoc]
      exact hinv
    · have hkb : k < b.length := by omega
      by_cases hia : i < a.length
      · have h1 : (if (k : Int) = (b.length : Int) then some true else if (i : Int) < (a.length : Int) then gate (inR (i : Int) (a.length : Int)) (gate (inR (k : Int) (b.length : Int)) (some (strLess (getI ([], (false, ((0 : Int), []))) a (i : Int)).1 (getI ([], (false, ((0 : Int), []))) b (k : Int)).1)) none) none else some false : Option Bool) = some (strLess (a.getD i ([], (false, ((0 : Int), [])))).1 (b.getD k ([], (false, ((0 : Int), [])))).1) := by
          rw [if_neg (by omega), if_pos (by omega), g_inR (by omega) (by omega), g_inR (by omega) (by omega), getI_nat, getI_nat]
        rw [bindO_of h1]
        rw [drop_ent hia, drop_ent hkb, diffM] at hinv
        by_cases hlt : strLess (a.getD i ([], (false, ((0 : Int), [])))).1 (b.getD k ([], (false, ((0 : Int), [])))).1 = true
        · rw [if_pos hlt] at hinv
          rw [if_pos hlt, g_inR (by omega) (by omega), getI_nat, gate_pos (room_of (by simp; omega) (by simp; omega)), w64 (by omega) (by omega)]
          refine step _ (i + 1) k (by omega) (by omega) (by omega) ?_
          rw [drop_ent hkb, List.append_assoc]
          exact hinv
        · rw [if_neg hlt] at hinv
          have h2 : (if (i : Int) = (a.length : Int) then some true else gate (inR (k : Int) (b.length : Int)) (gate (inR (i : Int) (a.length : Int)) (some (strLess (getI ([], (false, ((0 : Int), []))) b (k : Int)).1 (getI ([], (false, ((0 : Int), []))) a (i : Int)).1)) none) none : Option Bool) = some (strLess (b.getD k ([], (false, ((0 : Int), [])))).1 (a.getD i ([], (false, ((0 : Int), [])))).1) := by
            rw [if_neg (by omega), g_inR (by omega) (by omega), g_inR (by omega) (by omega), getI_nat, getI_nat]
          rw [if_neg hlt, bindO_of h2]
          by_cases hgt : strLess (b.getD k ([], (false, ((0 : Int), [])))).1 (a.getD i ([], (false, ((0 : Int), [])))).1 = true
          · rw [if_pos hgt] at hinv
            rw [if_pos hgt, g_inR (by omega) (by omega), getI_nat, gate_pos (room_of (by simp; omega) (by simp; omega)), w64 (by omega) (by omega)]
            refine step _ i (k + 1) (by omega) (by omega) (by omega) ?_
            rw [drop_ent hia, List.append_assoc]
            exact hinv
          · rw [if_neg hgt] at hinv
            rw [if_neg hgt, g_inR (by omega) (by omega), g_inR (by omega) (by omega), getI_nat, getI_nat, bindO_of (entEq_eq N _ _ (by have := hd _ (getD_mem hia); omega) hN)]
            have hfin : ∀ o : List Lin, o.length ≤ out.length + 1 → o ++ diffM (a.drop (i + 1)) (b.drop (k + 1)) = diffM a b → Q (again (o, IntKind.wrap .i64 ((i : Int) + 1), IntKind.wrap .i64 ((k : Int) + 1), ())) := by
              intro o h1 h2
              rw [w64 (x := (i : Int) + 1) (by omega) (by omega), w64 (x := (k : Int) + 1) (by omega) (by omega)]
              exact hag _ ⟨o, i + 1, k + 1, rfl, by omega, by omega, by omega, h2⟩ (by simp only; omega)
            by_cases hxy : a.getD i ([], (false, ((0 : Int), []))) = b.getD k ([], (false, ((0 : Int), [])))
            · rw [if_pos hxy] at hinv
              rw [decide_eq_true hxy, if_neg (by decide), b_some]
              exact hfin out (by omega) (by simpa using hinv)
            · rw [if_neg hxy] at hinv
              rw [decide_eq_false hxy, if_pos (by rfl), g_inR (by omega) (by omega), gate_pos (room_of (by simp; omega) (by simp; omega)), b_some]
              refine hfin _ (by simp) ?_
              rw [List.append_assoc]
              exact hinv
      · have hie : i = a.length := by omega
        have h1 : (if (k : Int) = (b.length : Int) then some true else if (i : Int) < (a.length : Int) then gate (inR (i : Int) (a.length : Int)) (gate (inR (k : Int) (b.length : Int)) (some (strLess (getI ([], (false, ((0 : Int), []))) a (i : Int)).1 (getI ([], (false, ((0 : Int), []))) b (k : Int)).1)) none) none else some false : Option Bool) = some false := by
          rw [if_neg (by omega), if_neg (by omega)]
        have h2 : (if (i : Int) = (a.length : Int) then some true else gate (inR (k : Int) (b.length : Int)) (gate (inR (i : Int) (a.length : Int)) (some (strLess (getI ([], (false, ((0 : Int), []))) b (k : Int)).1 (getI ([], (false, ((0 : Int), []))) a (i : Int)).1)) none) none : Option Bool) = some true := by rw [if_pos (by omega)]
        rw [bindO_of h1, if_neg (by decide), bindO_of h2, if_pos rfl, g_inR (by omega) (by omega), getI_nat, gate_pos (room_of (by simp; omega) (by simp; omega)), w64 (by omega) (by omega)]
        refine step _ i (k + 1) (by omega) (by omega) (by omega) ?_
        rw [hie, List.drop_length, drop_ent hkb, diffM] at hinv
        rw [hie, List.drop_length, List.append_assoc]
        exact hinv
  · rw [if_neg (by rw [decide_eq_false hm]; decide)]
    have e1 : i = a.length := by omega
    have e2 : k = b.length := by omega
    rw [e1, e2, List.drop_length, List.drop_length, diffM, List.append_nil] at hinv
    rw [hinv]
    exact h

theorem fsDiff_eq (N : Nat) (a b : List Ent) (ra rb : Int) (h1 : fs_Check N a = some ra) (h2 : fs_Check N b = some rb) (hok : ra = 0 → rb = 0 → a.length ≤ 40 ∧ b.length ≤ 40 ∧ ∀ e ∈ a, e.2.2.2.length ≤ 2048) (hN : 1048577 < N) :
    fs_Diff N a b = some (if ra ≠ 0 then ([], ra) else if rb ≠ 0 then ([], rb) else (diffM a b, 0)) := by
  unfold fs_Diff
  have hl : (([a, b] : List (List Ent)).length : Int) = 2 := rfl
  rw [hl]
  refine iter_rule (fun v => ∃ i : Nat, v = ([a, b], (i : Int), ()) ∧ i ≤ 2 ∧ (1 ≤ i → ra = 0) ∧ (2 ≤ i → rb = 0)) (fun v => 2 - v.2.1.toNat) (fun o => o = some (if ra ≠ 0 then ([], ra) else if rb ≠ 0 then ([], rb) else (diffM a b, 0))) ?_ N _ ⟨0, rfl, by omega, by omega, by omega⟩ (by simp only; omega)
  rintro v again ⟨i, rfl, hi, hra, hrb⟩ hag
  unfold fs_Diff.s0
  simp only [decide_eq_true_eq]
  by_cases hlt : i < 2
  · rw [if_pos (by omega), g_inR (by omega) (by rw [hl]; omega), g_inR (by omega) (by rw [hl]; omega), getI_nat, w64 (by omega) (by omega)]
    by_cases h0 : i = 0
    · subst h0
      rw [bindO_of (show fs_Check N (([a, b] : List (List Ent)).getD 0 []) = some ra from h1)]
      by_cases hr : ra = 0
      · rw [if_neg (by simp [hr])]
        exact hag _ ⟨1, rfl, by omega, fun _ => hr, by omega⟩ (by simp only; omega)
      · rw [if_pos (by simp [hr]), if_pos hr]
    · have e1 : i = 1 := by omega
      subst e1
      have hr := hra (by omega)
      rw [bindO_of (show fs_Check N (([a, b] : List (List Ent)).getD 1 []) = some rb from h2)]
      by_cases hr2 : rb = 0
      · rw [if_neg (by simp [hr2])]
        exact hag _ ⟨2, rfl, by omega, fun _ => hr, fun _ => hr2⟩ (by simp only; omega)
      · rw [if_pos (by simp [hr2]), if_neg (by simp [hr]), if_pos hr2]
  · rw [if_neg (by omega)]
    have hr := hra (by omega)
    have hr2 := hrb (by omega)
    obtain ⟨q1, q2, q3⟩ := hok hr hr2
    refine merge_eq N none _ a b q1 q2 q3 hN (fun o => o = some (if ra ≠ 0 then ([], ra) else if rb ≠ 0 then ([], rb) else (diffM a b, 0))) ?_
    rw [if_neg (by simp [hr]), if_neg (by simp [hr2])]

theorem find_eq (N : Nat) (t : List Ent) (p : List Int) (ht : t.length ≤ 1048576) (hN : 1048577 < N) : wracklaw2_find N t p = some (match findE t p with | some e => (e, true) | none => (([], (false, ((0 : Int), []))), false)) := by
  unfold wracklaw2_find
  refine iter_rule (fun v => ∃ (i : Nat) (m1 : List Int) (m2 : Bool) (m3 : Int), v = ((i : Int), m1, m2, m3, ()) ∧ i ≤ t.length ∧ findE (t.drop i) p = findE t p) (fun v => t.length - v.1.toNat)
    (fun o => o = some (match findE t p with | some e => (e, true) | none => (([], (false, ((0 : Int), []))), false))) ?_ N _ ⟨0, [], false, 0, rfl, Nat.zero_le _, rfl⟩ (by simp only; omega)
  rintro v again ⟨i, m1, m2, m3, rfl, hi, hf⟩ hag
  unfold wracklaw2_find.s0
  simp only [decide_eq_true_eq]
  by_cases hlt : i < t.length
  · rw [if_pos (by omega), g_inR (by omega) (by omega), getI_nat]
    rw [drop_ent hlt] at hf
    unfold findE at hf
    rw [List.find?_cons] at hf
    by_cases h : (t.getD i ([], (false, ((0 : Int), [])))).1 = p
    · rw [decide_eq_true h] at hf
      rw [if_pos h]
      unfold findE
      rw [← hf]
    · rw [decide_eq_false h] at hf
      rw [if_neg h, w64 (by omega) (by omega)]
      exact hag _ ⟨i + 1, m1, m2, m3, by simp, by omega, hf⟩ (by simp only; omega)
  · rw [if_neg (by omega)]
    have : i = t.length := by omega
    subst this
    rw [List.drop_length] at hf
    rw [← hf]
    rfl

theorem lines_eq (N : Nat) (xs ys : List Lin) (hx : xs.length ≤ 1048576) (hN : 1048577 < N) : slices_Equal_fs_Line N xs ys = some (decide (xs = ys)) := by
  unfold slices_Equal_fs_Line
  simp only [Bool.not_eq_true', decide_eq_false_iff_not]
  by_cases hl : xs.length = ys.length
  · rw [if_neg (by omega)]
    refine iter_rule (fun v => ∃ i : Nat, v = ((i : Int), ()) ∧ i ≤ xs.length ∧ ∀ j, j < i → xs.getD j (0, []) = ys.getD j (0, [])) (fun v => xs.length - v.1.toNat) (fun r => r = some (decide (xs = ys))) ?_ N _ ⟨0, rfl, Nat.zero_le _, fun j hj => absurd hj (Nat.not_lt_zero _)⟩ (by simp only; omega)
    rintro v again ⟨i, rfl, hi, hall⟩ hag
    unfold slices_Equal_fs_Line.s0
    simp only [decide_eq_true_eq]
    by_cases hlt : i < xs.length
    · rw [if_pos (by omega), g_inR (by omega) (by omega), g_inR (by omega) (by omega), getI_nat, getI_nat]
      by_cases he : xs.getD i (0, []) = ys.getD i (0, [])
      · rw [if_neg (by rw [he]; simp), w64 (by omega) (by omega)]
        refine hag _ ⟨i + 1, by simp, by omega, fun j hj => ?_⟩ (by simp; omega)
        rcases Nat.lt_or_eq_of_le (Nat.le_of_lt_succ hj) with h | h
        · exact hall j h
        · subst h; exact he
      · rw [if_pos (by
          simp only [Bool.and_true, Bool.not_eq_true', Bool.and_eq_false_iff, decide_eq_false_iff_not]
          by_cases h1 : (xs.getD i (0, [])).1 = (ys.getD i (0, [])).1
          · right; exact fun h2 => he (Prod.ext h1 h2)
          · left; exact h1)]
        simp only [Option.some.injEq, Bool.false_eq, decide_eq_false_iff_not]
        exact fun h => he (by rw [h])
    · rw [if_neg (by omega)]
      have : xs = ys := List.ext_getElem hl fun j h1 h2 => by
        have := hall j (by omega)
        simpa [List.getD_eq_getElem?_getD, h1, h2] using this
      simp [this]
  · rw [if_pos (by omega)]
    simp only [Option.some.injEq, Bool.false_eq, decide_eq_false_iff_not]
    exact fun h => hl (by rw [h])

theorem take_snoc {α β : Type} (f : α → Option β) (t : List α) (i : Nat) (h : i < t.length) : (t.take (i + 1)).filterMap f = (t.take i).filterMap f ++ (f t[i]).toList := by
  rw [List.take_add_one, List.getElem?_eq_getElem h, List.filterMap_append]
  congr 1

theorem fsDiffs_true (N : Nat) (a b : List Ent) (hpa : ∀ e ∈ a, e.1.length ≤ 1048576) (hpb : ∀ e ∈ b, e.1.length ≤ 1048576) (hN : 1048577 < N) : wracklaw2_FsDiffs N a b = some true := by
  obtain ⟨ra, a1, a2⟩ := check_res N a hpa hN
  obtain ⟨qa, a3, a4⟩ := treeErr_res N a hpa hN
  obtain rfl := resT_unique a2 a4
  obtain ⟨rb, b1, b2⟩ := check_res N b hpb hN
  obtain ⟨qb, b3, b4⟩ := treeErr_res N b hpb hN
  obtain rfl := resT_unique b2 b4
  have hga : ra = 0 → a.length ≤ 40 ∧ (∀ e ∈ a, e.2.2.2.length ≤ 2048) ∧ Inc a := fun h => good_tree (by rw [← h]; exact a2)
  have hgb : rb = 0 → b.length ≤ 40 ∧ (∀ e ∈ b, e.2.2.2.length ≤ 2048) ∧ Inc b := fun h => good_tree (by rw [← h]; exact b2)
  have hpt := paths_true N hN
  unfold wracklaw2_FsDiffs
  rw [bindO_of (fsDiff_eq N a b ra rb a1 b1 (fun h1 h2 => ⟨(hga h1).1, (hgb h2).1, (hga h1).2.1⟩) hN), bindO_of a3]
  by_cases h1 : ra = 0
  · obtain ⟨la, da, ia⟩ := hga h1
    subst h1
    rw [if_pos (by decide), bindO_of b3, b_some, if_neg (by decide)]
    simp only
    by_cases h2 : rb = 0
    · obtain ⟨lb, db, ib⟩ := hgb h2
      subst h2
      rw [if_neg (by decide), bindO_of hpt]
      simp only [Bool.not_true, Bool.false_eq_true, if_false, decide_true, b_some]
      -- the first list
      refine iter_rule (fun v => ∃ i : Nat, v = (diffM a b, (a.take i).filterMap (lineA b), (i : Int), ()) ∧ i ≤ a.length) (fun v => a.length - v.2.2.1.toNat) (fun o => o = some true) ?_ N _ ⟨0, rfl, Nat.zero_le _⟩ (by simp only; omega)
      rintro v again ⟨i, rfl, hi⟩ hag
      unfold wracklaw2_FsDiffs.s0
      simp only [decide_eq_true_eq]
      have hfl : ((a.take i).filterMap (lineA b)).length ≤ 40 := by
        refine Nat.le_trans (List.length_filterMap_le _ _) ?_
        rw [List.length_take]; omega
      by_cases hlt : i < a.length
      · rw [if_pos (by omega), g_inR (by omega) (by omega), getI_nat, bindO_of (find_eq N b _ (by omega) hN), getD_ent hlt]
        have hsn := take_snoc (lineA b) a i hlt
        rw [w64 (by omega) (by omega)]
        have go : ∀ o, (a.take i).filterMap (lineA b) ++ (lineA b a[i]).toList = o → (again (diffM a b, o, (i : Int) + 1, ())) = some true := by
          intro o ho
          refine hag _ ⟨i + 1, ?_, by omega⟩ (by simp only; omega)
          rw [hsn, ho]
          rfl
        cases hf : findE b a[i].1 with
        | none =>
          simp only [Bool.not_false, if_true]
          rw [gate_pos (room_of (by simp; omega) (by simp; omega))]
          exact go _ (by simp [lineA, hf])
        | some y =>
          simp only [Bool.not_true, Bool.false_eq_true, if_false]
          rw [bindO_of (equalT_eq N [a[i]] [y] (by simp) hN)]
          by_cases hxy : a[i] = y
          · rw [if_neg (by simp [hxy])]
            refine go _ ?_
            unfold lineA
            rw [hf]
            simp [hxy]
          · rw [if_pos (by simp [hxy]), gate_pos (room_of (by simp; omega) (by simp; omega))]
            exact go _ (by simp [lineA, hf, hxy])
      · rw [if_neg (by omega)]
        have : i = a.length := by omega
        subst this
        rw [List.take_length] at hfl ⊢
        -- the second list
        refine iter_rule (fun v => ∃ i : Nat, v = (diffM a b, a.filterMap (lineA b) ++ (b.take i).filterMap (lineB a), (i : Int), ()) ∧ i ≤ b.length) (fun v => b.length - v.2.2.1.toNat) (fun o => o = some true) ?_ N _ ⟨0, by simp, Nat.zero_le _⟩ (by simp only; omega)
        rintro v again ⟨i, rfl, hi⟩ hag
        unfold wracklaw2_FsDiffs.s1
        simp only [decide_eq_true_eq]
        have hfb : ((b.take i).filterMap (lineB a)).length ≤ 40 := by
          refine Nat.le_trans (List.length_filterMap_le _ _) ?_
          rw [List.length_take]; omega
        by_cases hlt : i < b.length
        · rw [if_pos (by omega), g_inR (by omega) (by omega), getI_nat, bindO_of (find_eq N a _ (by omega) hN), getD_ent hlt]
          have hsn := take_snoc (lineB a) b i hlt
          rw [w64 (by omega) (by omega)]
          have go : ∀ o, a.filterMap (lineA b) ++ ((b.take i).filterMap (lineB a) ++ (lineB a b[i]).toList) = o → (again (diffM a b, o, (i : Int) + 1, ())) = some true := by
            intro o ho
            refine hag _ ⟨i + 1, ?_, by omega⟩ (by simp only; omega)
            rw [hsn, ho]
            rfl
          cases hf : findE a b[i].1 with
          | none =>
            simp only [Bool.not_false, if_true]
            rw [gate_pos (room_of (by simp; omega) (by simp; omega))]
            exact go _ (by simp [lineB, hf])
          | some y =>
            simp only [Bool.not_true, Bool.false_eq_true, if_false]
            exact go _ (by simp [lineB, hf])
        · rw [if_neg (by omega)]
          have : i = b.length := by omega
          subst this
          rw [List.take_length] at hfb ⊢
          have hw : a.filterMap (lineA b) ++ b.filterMap (lineB a) = wantI a b := rfl
          have hdl := diff_len a b
          rw [hw, gate_pos (by rw [want_apartB ia ib, decide_eq_true (by rw [← hw, List.length_append]; omega)]; rfl), diff_want ia ib]
          simp only [if_true]
          rw [bindO_of (lines_eq N _ _ (by omega) hN)]
          simp [b_some]
    · rw [if_pos h2, bindO_of hpt]
      simp [bindO, hpt, h2]
  · rw [if_neg (by simpa using h1), b_some]
    simp only
    rw [if_pos h1, bindO_of hpt]
    simp [bindO, hpt, h1]

end Go.Proofs.YthkpfkjbflcpnaaDoor
