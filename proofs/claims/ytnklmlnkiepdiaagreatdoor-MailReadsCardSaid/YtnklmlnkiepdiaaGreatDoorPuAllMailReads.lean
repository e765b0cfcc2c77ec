/-
  PLAIN: all plain texts that mailReads_true needs, in one.
-/
import Derived.Test.YtnklmlnkiepdiaaGreatDoorAbPlain
import Derived.Test.YtnklmlnkiepdiaaGreatDoorPu
import Derived.Test.YtnklmlnkiepdiaaGreatDoorAbIterFn
import Derived.Test.YtnklmlnkiepdiaaGreatDoorAbItoaFn
import Derived.Test.YtnklmlnkiepdiaaGreatDoorAbAtoiFn
import Derived.Lib.AtoiAllCases
set_option linter.unusedVariables false
set_option linter.unusedSimpArgs false
namespace Go.Proofs.YtnklmlnkiepdiaaGreatDoor
open Go Go.Ab

theorem splitI_ne (c : Int) : ∀ l, splitI c l ≠ [] := by
  intro l
  cases l with
  | nil => simp [splitI]
  | cons x r =>
    simp only [splitI]
    split
    · simp
    · split <;> simp

theorem splitI_free (c : Int) : ∀ l : List Int, c ∉ l → splitI c l = [l] := by
  intro l
  induction l with
  | nil => intro _; rfl
  | cons x r ih =>
    intro h
    simp only [List.mem_cons, not_or] at h
    simp only [splitI]
    rw [if_neg (fun e => h.1 e.symm), ih h.2]

theorem splitI_app (c : Int) (b : List Int) : ∀ a : List Int, splitI c (a ++ c :: b) = splitI c a ++ splitI c b := by
  intro a
  induction a with
  | nil => simp [splitI]
  | cons x r ih =>
    simp only [List.cons_append, splitI, ih]
    by_cases h : x = c
    · rw [if_pos h, if_pos h]; rfl
    · rw [if_neg h, if_neg h]
      cases hs : splitI c r with
      | nil => exact absurd hs (splitI_ne c r)
      | cons p q => rfl

theorem joinI_cons (sep x : List Int) (y : List Int) (r : List (List Int)) : joinI sep (x :: y :: r) = x ++ (sep ++ joinI sep (y :: r)) := by
  simp [joinI, List.intercalate]

theorem join_split (c : Int) : ∀ a : List Int, joinI [c] (splitI c a) = a := by
  intro a
  induction a with
  | nil => simp [splitI, joinI, List.intercalate]
  | cons x r ih =>
    simp only [splitI]
    cases hs : splitI c r with
    | nil => exact absurd hs (splitI_ne c r)
    | cons p q =>
      rw [hs] at ih
      by_cases h : x = c
      · subst h
        rw [if_pos rfl, joinI_cons, ih]
        rfl
      · rw [if_neg h]
        simp only
        cases q with
        | nil =>
          simp only [joinI, List.intercalate, List.intersperse, List.flatten_cons, List.flatten_nil, List.append_nil] at ih ⊢
          rw [ih]
        | cons p' q' =>
          rw [joinI_cons] at ih ⊢
          rw [List.cons_append, ih]

def nameCh (x : Int) : Bool := decide (97 ≤ x ∧ x ≤ 122) || decide (48 ≤ x ∧ x ≤ 57) || decide (x = 45)

def nameB (s : List Int) : Bool := match s with
  | [] => false
  | x :: r => decide (s.length ≤ 12) && (decide (97 ≤ x ∧ x ≤ 122) && s.all nameCh)

theorem named_eq (N : Nat) (s : List Int) (hs : s.length ≤ 1048576) (hN : 1048577 < N) : fs_Named N s = some (nameB s) := by
  unfold fs_Named
  cases s with
  | nil => rfl
  | cons x r =>
    have e0 : getI 0 (x :: r) (0 : Int) = x := rfl
    rw [if_neg (by simp)]
    by_cases hl : (x :: r).length ≤ 12
    · rw [if_neg (by simp only [decide_eq_true_eq]; omega), gate_pos (inR_of (by omega) (by simp)), gate_pos (inR_of (by omega) (by simp)), e0]
      simp only [decide_eq_true_eq]
      by_cases h1 : x < 97
      · rw [if_pos h1]
        have : nameB (x :: r) = false := by
          simp only [nameB]
          have : decide (97 ≤ x ∧ x ≤ 122) = false := by simp; omega
          rw [this]; simp
        rw [this]; rfl
      · rw [if_neg h1]
        by_cases h2 : x > 122
        · have : nameB (x :: r) = false := by
            simp only [nameB]
            have : decide (97 ≤ x ∧ x ≤ 122) = false := by simp; omega
            rw [this]; simp
          rw [this]
          simp [bindO, h2]
        · have hx : decide (97 ≤ x ∧ x ≤ 122) = true := by simp; omega
          have hnb : nameB (x :: r) = (x :: r).all nameCh := by
            simp only [nameB]
            rw [hx]
            simp only [Bool.true_and]
            rw [show decide ((x :: r).length ≤ 12) = true by simpa using hl]
            simp
          rw [hnb]
          simp only [bindO, h2, decide_false]
          rw [if_neg (by decide)]
          generalize hy : x :: r = y at *
          refine iter_rule (fun v => ∃ i : Nat, v = ((i : Int), ()) ∧ i ≤ y.length ∧ ∀ j : Nat, j < i → nameCh (y.getD j 0) = true) (fun v => y.length - v.1.toNat)
            (fun o => o = some (y.all nameCh)) ?_ N _ ⟨0, rfl, Nat.zero_le _, fun j hj => absurd hj (Nat.not_lt_zero _)⟩ (by simp only; omega)
          rintro v again ⟨i, rfl, hi, hall⟩ hag
          unfold fs_Named.s0
          simp only [decide_eq_true_eq]
          by_cases hlt : i < y.length
          · rw [if_pos (by omega), gate_pos (inR_of (by omega) (by omega)), getI_nat]
            generalize hz : y.getD i 0 = z
            have body : (if z < 97 then (if z < 48 then some (!decide (z = 45)) else if z > 57 then some (!decide (z = 45)) else some false) else if z > 122 then (if z < 48 then some (!decide (z = 45)) else if z > 57 then some (!decide (z = 45)) else some false) else some false : Option Bool) = some (!nameCh z) := by
              unfold nameCh
              repeat' split
              all_goals
                simp only [Option.some.injEq, Bool.not_or, Bool.false_eq, Bool.and_eq_false_imp]
                rw [Bool.eq_iff_iff]
                simp
                try omega
            rw [body]
            simp only [bindO]
            cases hc : nameCh z with
            | true =>
              simp only [Bool.not_true, Bool.false_eq_true, if_false]
              rw [w64 (by omega) (by omega)]
              refine hag _ ⟨i + 1, by simp, by omega, fun j hj => ?_⟩ (by simp only; omega)
              rcases Nat.lt_or_eq_of_le (Nat.le_of_lt_succ hj) with h | h
              · exact hall j h
              · subst h; rw [hz]; exact hc
            | false =>
              simp only [Bool.not_false, if_true, Option.some.injEq, Bool.false_eq]
              rw [List.all_eq_false]
              refine ⟨y[i], List.getElem_mem hlt, ?_⟩
              rw [List.getD_eq_getElem?_getD, List.getElem?_eq_getElem hlt] at hz
              simp only [Option.getD_some] at hz
              rw [hz, hc]
              simp
          · rw [if_neg (by omega)]
            simp only [Option.some.injEq, Bool.true_eq, List.all_eq_true]
            intro z hz
            obtain ⟨j, hj, rfl⟩ := List.getElem_of_mem hz
            have := hall j (by omega)
            rw [List.getD_eq_getElem?_getD, List.getElem?_eq_getElem hj] at this
            exact this
    · rw [if_pos (by simp only [decide_eq_true_eq]; omega)]
      have : nameB (x :: r) = false := by
        simp only [nameB]
        have : decide ((x :: r).length ≤ 12) = false := by simpa using hl
        rw [this]; simp
      rw [this]; rfl

theorem dropWhile_nil {p : Int → Bool} : ∀ l : List Int, l.dropWhile p = [] ↔ ∀ x ∈ l, p x = true := by
  intro l
  induction l with
  | nil => simp
  | cons x r ih =>
    simp only [List.dropWhile_cons, List.mem_cons, forall_eq_or_imp]
    cases h : p x with
    | true => simp [ih]
    | false => simp

theorem trimI_nil (cs l : List Int) : trimI cs l = [] ↔ ∀ x ∈ l, cs.contains x = true := by
  have hd : ∀ m : List Int, (∀ x ∈ m.dropWhile (cs.contains ·), cs.contains x = true) → m.dropWhile (cs.contains ·) = [] := by
    intro m
    induction m with
    | nil => intro _; rfl
    | cons x r ih =>
      intro h
      rw [List.dropWhile_cons] at h ⊢
      cases hc : cs.contains x with
      | true => rw [hc] at h; simp only [if_true] at h ⊢; exact ih h
      | false =>
        rw [hc] at h
        simp only [Bool.false_eq_true, if_false, List.mem_cons, forall_eq_or_imp] at h
        rw [hc] at h
        exact absurd h.1 (by decide)
  unfold trimI
  rw [dropWhile_nil]
  constructor
  · intro h
    have h1 := hd l.reverse (fun x hx => h x (by simpa using hx))
    rw [dropWhile_nil] at h1
    exact fun x hx => h1 x (by simpa using hx)
  · intro h x hx
    have h1 : x ∈ l.reverse.dropWhile (cs.contains ·) := by simpa using hx
    exact h x (by simpa using (List.dropWhile_sublist _).mem h1)

theorem idxI_ge (c : Int) : ∀ l : List Int, -1 ≤ idxI c l ∧ (0 ≤ idxI c l ↔ c ∈ l) := by
  intro l
  induction l with
  | nil => simp [idxI]
  | cons x r ih =>
    obtain ⟨h1, h2⟩ := ih
    simp only [idxI, List.mem_cons]
    by_cases h : x = c
    · rw [if_pos h]
      simp [h]
    · rw [if_neg h]
      by_cases h3 : idxI c r = -1
      · rw [if_pos h3]
        refine ⟨by omega, ?_⟩
        constructor
        · intro h4; omega
        · intro h4
          rcases h4 with h4 | h4
          · exact absurd h4.symm h
          · have := h2.2 h4; omega
      · rw [if_neg h3]
        refine ⟨by omega, ?_⟩
        constructor
        · intro h4; exact Or.inr (h2.1 (by omega))
        · intro h4
          rcases h4 with h4 | h4
          · exact absurd h4.symm h
          · have := h2.2 h4; omega

theorem letter_mem (x : Int) : x ∈ ([97, 98, 99, 100, 101, 102, 103, 104, 105, 106, 107, 108, 109, 110, 111, 112, 113, 114, 115, 116, 117, 118, 119, 120, 121, 122] : List Int) ↔ 97 ≤ x ∧ x ≤ 122 := by
  simp only [List.mem_cons, List.not_mem_nil, or_false]
  omega

theorem nameCh_mem (x : Int) : ([97, 98, 99, 100, 101, 102, 103, 104, 105, 106, 107, 108, 109, 110, 111, 112, 113, 114, 115, 116, 117, 118, 119, 120, 121, 122, 48, 49, 50, 51, 52, 53, 54, 55, 56, 57, 45] : List Int).contains x = nameCh x := by
  rw [Bool.eq_iff_iff]
  simp only [List.contains_eq_mem, decide_eq_true_eq, nameCh, Bool.or_eq_true, List.mem_cons, List.not_mem_nil, or_false]
  omega

theorem word_eq (N : Nat) (s : List Int) : wrackref2_Word N s = some (nameB s) := by
  unfold wrackref2_Word
  cases s with
  | nil => rfl
  | cons x r =>
    simp only [decide_eq_true_eq]
    rw [if_pos (by simp)]
    by_cases hl : ((x :: r).length : Int) ≤ 12
    · rw [if_pos hl, gate_pos (bounds_of (by omega) (by omega) (by simp only [List.length_cons]; omega))]
      have ec : cut (x :: r) (0 : Int) (1 : Int) = [x] := rfl
      have hcon : strings_Contains N [97, 98, 99, 100, 101, 102, 103, 104, 105, 106, 107, 108, 109, 110, 111, 112, 113, 114, 115, 116, 117, 118, 119, 120, 121, 122] [x] = some (decide (97 ≤ x ∧ x ≤ 122)) := by
        unfold strings_Contains
        simp only [indexF, indexG, bindO, Option.some.injEq, ge_iff_le]
        rw [Bool.eq_iff_iff]
        simp only [decide_eq_true_eq]
        rw [(idxI_ge x _).2, letter_mem]
      rw [ec, bindO_of hcon]
      by_cases hx : 97 ≤ x ∧ x ≤ 122
      · rw [if_pos (by simpa using hx)]
        have ht : trimF (x :: r) [97, 98, 99, 100, 101, 102, 103, 104, 105, 106, 107, 108, 109, 110, 111, 112, 113, 114, 115, 116, 117, 118, 119, 120, 121, 122, 48, 49, 50, 51, 52, 53, 54, 55, 56, 57, 45] = some (trimI [97, 98, 99, 100, 101, 102, 103, 104, 105, 106, 107, 108, 109, 110, 111, 112, 113, 114, 115, 116, 117, 118, 119, 120, 121, 122, 48, 49, 50, 51, 52, 53, 54, 55, 56, 57, 45] (x :: r)) := by
          unfold trimF
          rw [if_pos (by decide)]
        rw [bindO_of ht]
        simp only [bindO, Option.some.injEq, nameB]
        rw [decide_eq_true (show (x :: r).length ≤ 12 by omega), decide_eq_true hx]
        simp only [Bool.true_and]
        rw [Bool.eq_iff_iff]
        simp only [decide_eq_true_eq, trimI_nil, nameCh_mem, List.all_eq_true]
      · rw [if_neg (by simpa using hx)]
        simp only [bindO, nameB]
        rw [decide_eq_false hx]
        simp
    · rw [if_neg hl]
      simp only [bindO, nameB]
      rw [decide_eq_false (show ¬ (x :: r).length ≤ 12 by omega)]
      simp

theorem splitI_len (c : Int) : ∀ l : List Int, (splitI c l).length ≤ l.length + 1 ∧ ∀ p ∈ splitI c l, p.length ≤ l.length := by
  intro l
  induction l with
  | nil => simp [splitI]
  | cons x r ih =>
    simp only [splitI]
    obtain ⟨h1, h2⟩ := ih
    split
    · refine ⟨by simp; omega, fun p hp => ?_⟩
      rcases List.mem_cons.1 hp with hp | hp
      · subst hp; simp
      · have := h2 p hp; simp; omega
    · split
      · rename_i a t hs
        rw [hs] at h1 h2
        refine ⟨by simp at h1 ⊢; omega, fun p hp => ?_⟩
        rcases List.mem_cons.1 hp with hp | hp
        · subst hp
          have := h2 a (by simp)
          simp; omega
        · have := h2 p (by simp [hp])
          simp; omega
      · exact ⟨by simp, fun p hp => by simp at hp; subst hp; simp⟩

/-- a text whose lines all end -/
def endsB (t : List Int) : Bool := decide (t = []) || decide (t.getLast? = some 10)

theorem splitI_at (c : Int) (r : List Int) : splitI c (c :: r) = [] :: splitI c r := by simp [splitI]

theorem splitI_off {c x : Int} {r p : List Int} {q : List (List Int)} (h : x ≠ c) (hs : splitI c r = p :: q) : splitI c (x :: r) = (x :: p) :: q := by
  simp only [splitI]
  rw [if_neg h, hs]

/-- what lies behind the last cut, where it isn't empty -/
def restI (ls : List (List Int)) : List (List Int) := if ls.getLastD [] = [] then [] else [ls.getLastD []]

theorem lines_split : ∀ t : List Int, linesI t = (splitI 10 t).dropLast.map (· ++ [10]) ++ restI (splitI 10 t) := by
  intro t
  induction t with
  | nil => simp [linesI, splitI, restI]
  | cons x r ih =>
    by_cases h : x = 10
    · subst h
      rw [splitI_at]
      simp only [linesI]
      rw [if_pos trivial, ih]
      cases hs : splitI 10 r with
      | nil => exact absurd hs (splitI_ne 10 r)
      | cons p q => simp [restI, List.dropLast]
    · cases hs : splitI 10 r with
      | nil => exact absurd hs (splitI_ne 10 r)
      | cons p q =>
        rw [splitI_off h hs]
        simp only [linesI]
        rw [if_neg h, ih, hs]
        cases q with
        | nil =>
          by_cases hp : p = []
          · subst hp; simp [List.dropLast, restI]
          · simp [List.dropLast, hp, restI]
        | cons p' q' => simp [List.dropLast, restI]

theorem split_last : ∀ t : List Int, (splitI 10 t).getLastD [] = [] ↔ endsB t = true := by
  intro t
  induction t with
  | nil => simp [splitI, endsB]
  | cons x r ih =>
    by_cases h : x = 10
    · subst h
      rw [splitI_at]
      cases hr : splitI 10 r with
      | nil => exact absurd hr (splitI_ne 10 r)
      | cons p q =>
        rw [hr] at ih
        have e : (([] : List Int) :: p :: q).getLastD [] = (p :: q).getLastD [] := by simp [List.getLastD]
        rw [e, ih]
        cases r with
        | nil => simp [endsB]
        | cons y s => simp [endsB]
    · cases hr : splitI 10 r with
      | nil => exact absurd hr (splitI_ne 10 r)
      | cons p q =>
        rw [splitI_off h hr]
        rw [hr] at ih
        cases q with
        | nil =>
          cases r with
          | nil =>
            simp [splitI] at hr
            simp [endsB, h, hr]
          | cons y s =>
            have h1 : endsB (x :: y :: s) = endsB (y :: s) := by simp [endsB]
            rw [h1, ← ih]
            constructor
            · intro e; simp at e
            · intro e
              simp only [List.getLastD_cons, List.getLastD_nil] at e
              subst e
              exfalso
              by_cases hy : y = 10
              · subst hy; rw [splitI_at] at hr; simp at hr; exact splitI_ne _ _ hr
              · cases hr2 : splitI 10 s with
                | nil => exact absurd hr2 (splitI_ne 10 s)
                | cons p2 q2 => rw [splitI_off hy hr2] at hr; simp at hr
        | cons p' q' =>
          have e : ((x :: p) :: p' :: q').getLastD [] = (p :: p' :: q').getLastD [] := by simp [List.getLastD]
          rw [e, ih]
          cases r with
          | nil => simp [splitI] at hr
          | cons y s => simp [endsB]

theorem lines_ends (t : List Int) (h : endsB t = true) : linesI t = (splitI 10 t).dropLast.map (· ++ [10]) := by
  rw [lines_split]
  unfold restI
  rw [if_pos ((split_last t).2 h), List.append_nil]

/-- a line, with a further dot where it begins with one -/
def dotI : List Int → List Int
  | [] => []
  | x :: r => if x = 46 then 46 :: x :: r else x :: r

theorem dotI_app (s : List Int) : dotI (s ++ [10]) = dotI s ++ [10] := by
  cases s with
  | nil => simp [dotI]
  | cons x r =>
    simp only [List.cons_append, dotI]
    by_cases h : x = 46
    · rw [if_pos h, if_pos h]; rfl
    · rw [if_neg h, if_neg h]; rfl

theorem dots_ends (t : List Int) (h : endsB t = true) : ((linesI t).map dotI).flatten = (((splitI 10 t).dropLast.map dotI).map (· ++ [10])).flatten := by
  rw [lines_ends t h, List.map_map, List.map_map]
  congr 2
  funext s
  exact dotI_app s

theorem join_end : ∀ ls : List (List Int), joinI [10] (ls ++ [[]]) = (ls.map (· ++ [10])).flatten := by
  intro ls
  induction ls with
  | nil => simp [joinI, List.intercalate]
  | cons x r ih =>
    cases r with
    | nil => simp [joinI, List.intercalate]
    | cons y s =>
      rw [List.cons_append, List.cons_append, joinI_cons]
      rw [List.cons_append] at ih
      rw [ih]
      simp

theorem split_all (p : Int → Bool) : ∀ t : List Int, (splitI 10 t).all (fun s => s.all p) = (t.filter fun x => decide (x ≠ 10)).all p := by
  intro t
  induction t with
  | nil => simp [splitI]
  | cons x r ih =>
    by_cases h : x = 10
    · subst h
      rw [splitI_at, List.all_cons, ih, List.filter_cons, if_neg (by decide)]
      simp
    · cases hr : splitI 10 r with
      | nil => exact absurd hr (splitI_ne 10 r)
      | cons a b =>
        rw [hr] at ih
        rw [splitI_off h hr, List.filter_cons, if_pos (by simpa using h)]
        simp only [List.all_cons] at ih ⊢
        rw [← ih, Bool.and_assoc]

theorem dotI_len (s : List Int) : (dotI s).length ≤ s.length + 1 := by
  cases s with
  | nil => simp [dotI]
  | cons x r => simp only [dotI]; split <;> simp

theorem mlines_len : ∀ t : List Int, (linesI t).length ≤ t.length := by
  intro t
  induction t with
  | nil => simp [linesI]
  | cons x r ih =>
    simp only [linesI]
    split
    · simp; omega
    · split
      · simp
      · rename_i h t' e
        rw [e] at ih
        simp at ih ⊢; omega

theorem mlines_flat : ∀ t : List Int, (linesI t).flatten = t := by
  intro t
  induction t with
  | nil => simp [linesI]
  | cons x r ih =>
    simp only [linesI]
    split
    · simp [ih]
    · split
      · rename_i e; rw [e] at ih; simp at ih ⊢; exact ih
      · rename_i h t' e; rw [e] at ih; simp at ih ⊢; exact ih

theorem mlines_ne : ∀ t : List Int, ∀ s ∈ linesI t, s ≠ [] := by
  intro t
  induction t with
  | nil => simp [linesI]
  | cons x r ih =>
    simp only [linesI]
    split
    · intro s hs; rcases List.mem_cons.1 hs with h | h
      · subst h; simp
      · exact ih s h
    · split
      · intro s hs; simp at hs; subst hs; simp
      · rename_i h t' e
        intro s hs
        rcases List.mem_cons.1 hs with h2 | h2
        · subst h2; simp
        · exact ih s (by rw [e]; exact List.mem_cons_of_mem _ h2)

theorem dots_len (ls : List (List Int)) : ((ls.map dotI).flatten).length ≤ ls.flatten.length + ls.length := by
  induction ls with
  | nil => simp
  | cons x r ih =>
    have := dotI_len x
    simp only [List.map_cons, List.flatten_cons, List.length_append, List.length_cons]
    omega

theorem mapGet_put {v : Ty} (z : List Int) : ∀ (m : List (List Int × v.den)) (x : List Int) (y : v.den), mapGet (k := .str) (v := v) (mapPut (k := .str) (v := v) m x y) z = if z = x then some y else mapGet (k := .str) (v := v) m z := by
  intro m x y
  induction m with
  | nil =>
    simp only [mapPut, mapGet, keyEq, decide_eq_true_eq]
  | cons e r ih =>
    simp only [mapPut, keyEq, decide_eq_true_eq]
    by_cases h : x = e.1
    · rw [if_pos h]
      simp only [mapGet, keyEq, decide_eq_true_eq]
      by_cases h2 : z = x
      · rw [if_pos h2, if_pos h2]
      · rw [if_neg h2, if_neg h2, if_neg (by rw [← h]; exact h2)]
    · rw [if_neg h]
      simp only [mapGet, keyEq, decide_eq_true_eq]
      by_cases h2 : z = e.1
      · rw [if_pos h2, if_pos h2, if_neg (fun e2 => h (by rw [← e2, h2]))]
      · rw [if_neg h2, if_neg h2, ih]

theorem g_room {R : Type} {n b : Nat} {k s : R} (h : n * b ≤ 140737488355328) (h' : n ≤ 140737488355328) : gate (roomFor n b) k s = k := gate_pos (room_of h h')

theorem g_dec {R : Type} {p : Prop} [Decidable p] {k s : R} (h : p) : gate (decide p) k s = k := gate_pos (decide_eq_true h)

theorem b_some {α R : Type} {a : α} {k : α → R} {s : R} : bindO (some a) k s = k a := rfl

theorem cutn {α : Type} (xs : List α) {l h : Int} (a b : Nat) (h1 : l = a) (h2 : h = b) (h3 : a ≤ b) : cut xs l h = (xs.drop a).take (b - a) := by
  subst h1; subst h2; exact cut_nat xs a b h3

theorem cut_end {α : Type} (xs : List α) (l : Nat) (h : l ≤ xs.length) : cut xs (l : Int) (xs.length : Int) = xs.drop l := by
  rw [cut_nat xs l xs.length h]
  exact List.take_of_length_le (by simp)

abbrev Ml := List Int × Int × List Int × List Int × Bool × List Int × List Int

abbrev ml0 : Ml := ([], (0 : Int), [], [], false, [], [])

theorem all_getD {α : Type} {d : α} {p : α → Bool} {s : List α} (h : ∀ j, j < s.length → p (s.getD j d) = true) : s.all p = true := by
  rw [List.all_eq_true]
  intro z hz
  obtain ⟨j, hj, rfl⟩ := List.getElem_of_mem hz
  have := h j hj
  rw [List.getD_eq_getElem?_getD, List.getElem?_eq_getElem hj] at this
  exact this

theorem any_getD {α : Type} {d : α} {p : α → Bool} {s : List α} {j : Nat} (hj : j < s.length) (h : p (s.getD j d) = false) : s.all p = false := by
  rw [List.all_eq_false]
  refine ⟨s[j], List.getElem_mem hj, ?_⟩
  rw [List.getD_eq_getElem?_getD, List.getElem?_eq_getElem hj] at h
  simp only [Option.getD_some] at h
  rw [h]; decide

def plainCh (x : Int) : Bool := decide (32 ≤ x ∧ x ≤ 126)

theorem plain1_eq (N : Nat) (c : Int) : mail_plain_1 N c = some (!plainCh c) := by
  unfold mail_plain_1 plainCh
  simp only [decide_eq_true_eq]
  by_cases h : c < 32
  · rw [if_pos h]
    simp only [bindO, Option.some.injEq]
    rw [decide_eq_false (show ¬ (32 ≤ c ∧ c ≤ 126) by omega)]
    rfl
  · rw [if_neg h]
    simp only [bindO, Option.some.injEq]
    by_cases h2 : c > 126
    · rw [decide_eq_true h2, decide_eq_false (show ¬ (32 ≤ c ∧ c ≤ 126) by omega)]; rfl
    · rw [decide_eq_false h2, decide_eq_true (show (32 ≤ c ∧ c ≤ 126) by omega)]; rfl

theorem plain_eq (N : Nat) (s : List Int) (hs : s.length ≤ 1048576) (hN : 1048577 < N) : mail_plain N s = some (s.all plainCh) := by
  unfold mail_plain
  rw [gate_pos (room_of (by omega) (by omega))]
  refine iter_rule (fun v => ∃ i : Nat, v = ((i : Int), ()) ∧ i ≤ s.length ∧ ∀ j : Nat, j < i → plainCh (s.getD j 0) = true) (fun v => s.length - v.1.toNat)
    (fun o => o = some (s.all plainCh)) ?_ N _ ⟨0, rfl, Nat.zero_le _, fun j hj => absurd hj (Nat.not_lt_zero _)⟩ (by simp only; omega)
  rintro v again ⟨i, rfl, hi, hall⟩ hag
  unfold mail_plain_i0_slices_ContainsFunc_i0_slices_IndexFunc.s0
  simp only [decide_eq_true_eq]
  by_cases hlt : i < s.length
  · rw [if_pos (by omega), gate_pos (inR_of (by omega) (by omega)), getI_nat, bindO_of (plain1_eq N _)]
    cases hc : plainCh (s.getD i 0) with
    | true =>
      simp only [Bool.not_true, Bool.false_eq_true, if_false]
      rw [w64 (by omega) (by omega)]
      refine hag _ ⟨i + 1, by simp, by omega, fun j hj => ?_⟩ (by simp only; omega)
      rcases Nat.lt_or_eq_of_le (Nat.le_of_lt_succ hj) with h | h
      · exact hall j h
      · subst h; exact hc
    | false =>
      simp only [Bool.not_false, if_true, Option.some.injEq]
      rw [any_getD hlt hc, decide_eq_true (show (i : Int) ≥ 0 by omega)]
      rfl
  · rw [if_neg (by omega), all_getD (d := 0) (fun j hj => hall j (by omega))]
    rfl

theorem clean_eq (N : Nat) (s : List Int) (hs : s.length ≤ 1048576) (hN : 1048577 < N) : wrackref2_MailErr_1 N s = some (s.all plainCh) := by
  unfold wrackref2_MailErr_1
  refine iter_rule (fun v => ∃ i : Nat, v = ((i : Int), ()) ∧ i ≤ s.length ∧ ∀ j : Nat, j < i → plainCh (s.getD j 0) = true) (fun v => s.length - v.1.toNat)
    (fun o => o = some (s.all plainCh)) ?_ N _ ⟨0, rfl, Nat.zero_le _, fun j hj => absurd hj (Nat.not_lt_zero _)⟩ (by simp only; omega)
  rintro v again ⟨i, rfl, hi, hall⟩ hag
  unfold wrackref2_MailErr_1.s0
  simp only [decide_eq_true_eq]
  by_cases hlt : i < s.length
  · rw [if_pos (by omega), gate_pos (inR_of (by omega) (by omega)), gate_pos (inR_of (by omega) (by omega)), getI_nat]
    have body : (if s.getD i 0 < 32 then some true else some (decide (s.getD i 0 > 126)) : Option Bool) = some (!plainCh (s.getD i 0)) := by
      have := plain1_eq N (s.getD i 0)
      unfold mail_plain_1 at this
      simp only [decide_eq_true_eq] at this
      rw [← this]
      split <;> rfl
    rw [bindO_of body]
    cases hc : plainCh (s.getD i 0) with
    | true =>
      simp only [Bool.not_true, Bool.false_eq_true, if_false]
      rw [w64 (by omega) (by omega)]
      refine hag _ ⟨i + 1, by simp, by omega, fun j hj => ?_⟩ (by simp only; omega)
      rcases Nat.lt_or_eq_of_le (Nat.le_of_lt_succ hj) with h | h
      · exact hall j h
      · subst h; exact hc
    | false =>
      simp only [Bool.not_false, if_true, Option.some.injEq]
      rw [any_getD hlt hc]
  · rw [if_neg (by omega), all_getD (d := 0) (fun j hj => hall j (by omega))]

theorem getLast_drop {s : List Int} (h : s ≠ []) (x : Int) : s.drop (s.length - 1) = [x] ↔ s.getLast? = some x := by
  obtain ⟨a, b, rfl⟩ : ∃ a b, s = a ++ [b] := ⟨s.dropLast, s.getLast h, (List.dropLast_concat_getLast h).symm⟩
  simp

theorem suffix_eq (N : Nat) (s : List Int) (hs : s.length ≤ 1048576) : strings_HasSuffix N s [10] = some (decide (s.getLast? = some 10)) := by
  have key : stringslite_HasSuffix N s [10] = some (decide (s.getLast? = some 10)) := by
    unfold stringslite_HasSuffix
    simp only [decide_eq_true_eq, List.length_cons, List.length_nil]
    by_cases h : (s.length : Int) ≥ ((0 + 1 : Nat) : Int)
    · have hne : s ≠ [] := by intro e; subst e; simp at h
      rw [if_pos h]
      have e := cut_end s (s.length - 1) (by omega)
      have ew : IntKind.wrap .i64 ((s.length : Int) - ((0 + 1 : Nat) : Int)) = ((s.length - 1 : Nat) : Int) := by rw [w64 (by omega) (by omega)]; omega
      simp only [ew, e]
      rw [gate_pos (bounds_of (by omega) (by omega) (by omega))]
      simp only [bindO, Option.some.injEq]
      rw [Bool.eq_iff_iff]
      simp only [decide_eq_true_eq]
      exact getLast_drop hne 10
    · rw [if_neg h]
      have : s = [] := by
        cases s with
        | nil => rfl
        | cons x r => simp at h; omega
      subst this
      rfl
  unfold strings_HasSuffix
  rw [bindO_of key]

/-- a reference: none, or a name -/
def refB (s : List Int) : Bool := decide (s = []) || nameB s

/-- what a message's check reports -/
def oneI (m : Ml) : Int :=
  if (nameB m.1 && nameB m.2.2.1 && refB m.2.2.2.1) = false then 6
  else if m.2.1 < 0 ∨ 4294967295 < m.2.1 then 21
  else if (m.2.2.2.2.2.1.all plainCh && endsB m.2.2.2.2.2.2 && (m.2.2.2.2.2.2.filter fun x => decide (x ≠ 10)).all plainCh) = false then 3 else 0

/-- the lengths that a small argument gives -/
def Small (m : Ml) : Prop := m.1.length ≤ 1048576 ∧ m.2.2.1.length ≤ 1048576 ∧ m.2.2.2.1.length ≤ 1048576 ∧ m.2.2.2.2.2.1.length ≤ 1048576 ∧ m.2.2.2.2.2.2.length ≤ 1048576

theorem endsB_eq (t : List Int) : endsB t = (decide (t = []) || decide (t.getLast? = some 10)) := rfl

theorem one_eq (N : Nat) (m : Ml) (hm : Small m) (hN : 1048577 < N) : mail_one N m = some (oneI m) := by
  obtain ⟨h1, h2, h3, h4, h5⟩ := hm
  unfold mail_one
  have names : (bindO (fs_Named N m.1) (fun r6 => if (!r6) = true then some true else bindO (fs_Named N m.2.2.1) (fun r11 => if (!r11) = true then some true else if (!decide (m.2.2.2.1 = [])) = true then bindO (fs_Named N m.2.2.2.1) (fun r21 => some (!r21)) none else some false) none) none : Option Bool) = some (!(nameB m.1 && nameB m.2.2.1 && refB m.2.2.2.1)) := by
    rw [bindO_of (named_eq N _ h1 hN)]
    cases nameB m.1 with
    | false => rfl
    | true =>
      rw [if_neg (by decide), bindO_of (named_eq N _ h2 hN)]
      cases nameB m.2.2.1 with
      | false => rfl
      | true =>
        rw [if_neg (by decide)]
        unfold refB
        by_cases hr : m.2.2.2.1 = []
        · rw [decide_eq_true hr]; rfl
        · rw [decide_eq_false hr, if_pos (by decide), bindO_of (named_eq N _ h3 hN)]
          simp
  simp only [names]
  unfold oneI
  cases hnm : (nameB m.1 && nameB m.2.2.1 && refB m.2.2.2.1) with
  | false => rfl
  | true =>
    simp only [bindO, Bool.not_true, Bool.false_eq_true, if_false, decide_eq_true_eq, Bool.true_eq_false]
    have times : (if m.2.1 < 0 then some true else some (decide (m.2.1 > 4294967295)) : Option Bool) = some (decide (m.2.1 < 0 ∨ 4294967295 < m.2.1)) := by
      by_cases h : m.2.1 < 0
      · rw [if_pos h, decide_eq_true (Or.inl h)]
      · rw [if_neg h]
        congr 1
        rw [Bool.eq_iff_iff]
        simp only [decide_eq_true_eq]
        omega
    rw [times]
    simp only
    by_cases ht : m.2.1 < 0 ∨ 4294967295 < m.2.1
    · rw [decide_eq_true ht, if_pos rfl, if_pos ht]
    · rw [decide_eq_false ht, if_neg (by decide), if_neg ht, plain_eq N _ h4 hN]
      simp only
      have hd : dropF m.2.2.2.2.2.2 [10] [] = some (m.2.2.2.2.2.2.filter fun x => decide (x ≠ 10)) := by
        unfold dropF
        simp only
        rw [if_pos (by omega)]
      have hfl : (m.2.2.2.2.2.2.filter fun x => decide (x ≠ 10)).length ≤ 1048576 := Nat.le_trans (List.length_filter_le _ _) h5
      cases m.2.2.2.2.2.1.all plainCh with
      | false => rfl
      | true =>
        simp only [Bool.not_true, Bool.false_eq_true, if_false, Bool.true_and]
        rw [hd]
        simp only
        rw [plain_eq N _ hfl hN]
        simp only
        rw [endsB_eq]
        by_cases he : m.2.2.2.2.2.2 = []
        · rw [decide_eq_true he]
          simp only [Bool.not_true, Bool.false_eq_true, if_false, Bool.true_or, Bool.true_and]
          cases (m.2.2.2.2.2.2.filter fun x => decide (x ≠ 10)).all plainCh <;> rfl
        · rw [decide_eq_false he]
          simp only [Bool.not_false, if_true, Bool.false_or]
          rw [suffix_eq N _ h5]
          simp only
          cases decide (m.2.2.2.2.2.2.getLast? = some 10) with
          | false => rfl
          | true =>
            simp only [Bool.not_true, Bool.false_eq_true, if_false, Bool.true_and]
            cases (m.2.2.2.2.2.2.filter fun x => decide (x ≠ 10)).all plainCh <;> rfl

theorem ml_mem {l : List Ml} {i : Nat} (h : i < l.length) : l.getD i ml0 ∈ l := by
  rw [List.getD_eq_getElem?_getD, List.getElem?_eq_getElem h]
  exact List.getElem_mem h

/-- is the name there before the i-th -/
def seenM (l : List Ml) (i : Nat) (p : List Int) : Bool := (l.take i).any fun x => decide (x.2.2.1 = p)

def mailAt (l : List Ml) (i : Nat) : Int := if oneI (l.getD i ml0) = 0 then (if seenM l i (l.getD i ml0).2.2.1 = true then 7 else 0) else oneI (l.getD i ml0)

def ResM (l : List Ml) (r : Int) : Prop :=
  (60 < l.length ∧ r = 9) ∨ (l.length ≤ 60 ∧ ((∃ i, i < l.length ∧ (∀ j, j < i → mailAt l j = 0) ∧ mailAt l i ≠ 0 ∧ r = mailAt l i) ∨ ((∀ j, j < l.length → mailAt l j = 0) ∧ r = 0)))

theorem resM_unique {l : List Ml} {r q : Int} (h1 : ResM l r) (h2 : ResM l q) : r = q := by
  rcases h1 with ⟨a1, a2⟩ | ⟨a1, a2⟩
  · rcases h2 with ⟨b1, b2⟩ | ⟨b1, b2⟩
    · rw [a2, b2]
    · omega
  · rcases h2 with ⟨b1, b2⟩ | ⟨b1, b2⟩
    · omega
    · rcases a2 with ⟨i, i1, i2, i3, i4⟩ | ⟨i1, i2⟩
      · rcases b2 with ⟨k, k1, k2, k3, k4⟩ | ⟨k1, k2⟩
        · have : i = k := by
            rcases Nat.lt_trichotomy i k with h | h | h
            · exact absurd (k2 i h) i3
            · exact h
            · exact absurd (i2 k h) k3
          subst this
          rw [i4, k4]
        · exact absurd (k1 i i1) i3
      · rcases b2 with ⟨k, k1, k2, k3, k4⟩ | ⟨k1, k2⟩
        · exact absurd (i1 k k1) k3
        · rw [i2, k2]

theorem twiceM {R : Type} (N : Nat) (s : R) (k0 : (List Int × Int × List Int × List Int × Bool × List Int × List Int × Unit) → R) (kr : (List Int × Int × List Int × List Int × Bool × List Int × List Int × Int × Unit) → R) (l : List Ml)
    (a1 : List Int) (a2 : Int) (p a4 : List Int) (a5 : Bool) (a6 a7 : List Int) (hl : l.length ≤ 1048576) (Q : R → Prop)
    (h0 : (l.any fun x => decide (x.2.2.1 = p)) = false → Q (k0 (a1, a2, p, a4, a5, a6, a7, ()))) (h1 : ∀ i : Nat, (l.any fun x => decide (x.2.2.1 = p)) = true → Q (kr (a1, a2, p, a4, a5, a6, a7, (i : Int), ()))) (n : Nat) (hn : l.length < n) :
    Q (iter (mail_Check_i0_slices_ContainsFunc_i0_slices_IndexFunc.s0 N s k0 kr (l, (l.length : Int), ())) s n (a1, a2, p, a4, a5, a6, a7, (0 : Int), ())) := by
  refine iter_rule (fun v => ∃ i : Nat, v = (a1, a2, p, a4, a5, a6, a7, (i : Int), ()) ∧ i ≤ l.length ∧ ∀ j : Nat, j < i → (l.getD j ml0).2.2.1 ≠ p) (fun v => l.length - v.2.2.2.2.2.2.2.1.toNat) Q ?_ n _ ⟨0, rfl, Nat.zero_le _, fun j hj => absurd hj (Nat.not_lt_zero _)⟩ (by simp only; omega)
  rintro v again ⟨i, rfl, hi, hall⟩ hag
  unfold mail_Check_i0_slices_ContainsFunc_i0_slices_IndexFunc.s0
  simp only [decide_eq_true_eq]
  by_cases hlt : i < l.length
  · rw [if_pos (by omega), gate_pos (inR_of (by omega) (by omega)), getI_nat]
    by_cases h : (l.getD i ml0).2.2.1 = p
    · rw [if_pos h]
      refine h1 i ?_
      rw [List.any_eq_true]
      exact ⟨_, ml_mem hlt, by simpa using h⟩
    · rw [if_neg h, w64 (by omega) (by omega)]
      refine hag _ ⟨i + 1, by simp, by omega, fun j hj => ?_⟩ (by simp only; omega)
      rcases Nat.lt_or_eq_of_le (Nat.le_of_lt_succ hj) with h2 | h2
      · exact hall j h2
      · subst h2; exact h
  · rw [if_neg (by omega)]
    refine h0 ?_
    rw [List.any_eq_false]
    intro e he
    obtain ⟨j, hj, rfl⟩ := List.getElem_of_mem he
    have := hall j (by omega)
    rw [List.getD_eq_getElem?_getD, List.getElem?_eq_getElem hj] at this
    simpa using this

theorem mcut_take {α : Type} (l : List α) (i : Nat) : cut l (0 : Int) (i : Int) = l.take i := by
  have := cut_nat l 0 i (Nat.zero_le _)
  simpa using this

theorem mcheck_res (N : Nat) (l : List Ml) (hp : ∀ e ∈ l, Small e) (hN : 1048577 < N) : ∃ r, mail_Check N l = some r ∧ ResM l r := by
  unfold mail_Check
  simp only [decide_eq_true_eq]
  by_cases h60 : 60 < l.length
  · rw [if_pos (by omega)]
    exact ⟨9, rfl, Or.inl ⟨h60, rfl⟩⟩
  · rw [if_neg (by omega)]
    refine iter_rule (fun v => ∃ i : Nat, v = ((i : Int), ()) ∧ i ≤ l.length ∧ ∀ j, j < i → mailAt l j = 0) (fun v => l.length - v.1.toNat)
      (fun o => ∃ r, o = some r ∧ ResM l r) ?_ N _ ⟨0, rfl, Nat.zero_le _, fun j hj => absurd hj (Nat.not_lt_zero _)⟩ (by simp only; omega)
    rintro v again ⟨i, rfl, hi, hall⟩ hag
    unfold mail_Check.s0
    simp only [decide_eq_true_eq]
    by_cases hlt : i < l.length
    · have stop : ∀ r : Int, mailAt l i = r → r ≠ 0 → ∃ q, (some r : Option Int) = some q ∧ ResM l q := fun r h1 h2 => ⟨r, rfl, Or.inr ⟨by omega, Or.inl ⟨i, hlt, hall, by rw [h1]; exact h2, h1.symm⟩⟩⟩
      have go : mailAt l i = 0 → ∃ q, again ((i : Int) + 1, ()) = some q ∧ ResM l q := fun h => hag _ ⟨i + 1, by simp, by omega, fun j hj => by
        rcases Nat.lt_or_eq_of_le (Nat.le_of_lt_succ hj) with h2 | h2
        · exact hall j h2
        · subst h2; exact h⟩ (by simp only; omega)
      rw [if_pos (by omega), gate_pos (inR_of (by omega) (by omega)), getI_nat, bindO_of (one_eq N _ (hp _ (ml_mem hlt)) hN)]
      by_cases h1 : oneI (l.getD i ml0) = 0
      · rw [if_neg (by rw [decide_eq_true h1]; decide), gate_pos (bounds_of (by omega) (by omega) (by omega)), mcut_take]
        refine twiceM N none _ _ (l.take i) _ _ _ _ _ _ _ (by rw [List.length_take]; omega) (fun o => ∃ q, o = some q ∧ ResM l q) (fun hno => ?_) (fun k hyes => ?_) N (by rw [List.length_take]; omega)
        · rw [if_neg (by decide), w64 (by omega) (by omega)]
          exact go (by unfold mailAt; rw [if_pos h1, if_neg (by unfold seenM; rw [hno]; decide)])
        · simp only
          rw [if_pos (by omega)]
          have hyes : seenM l i (l.getD i ml0).2.2.1 = true := hyes
          exact stop 7 (by unfold mailAt; rw [if_pos h1, if_pos hyes]) (by decide)
      · rw [if_pos (by rw [decide_eq_false h1]; decide)]
        exact stop _ (by unfold mailAt; rw [if_neg h1]) h1
    · rw [if_neg (by omega)]
      exact ⟨0, rfl, Or.inr ⟨by omega, Or.inr ⟨fun j hj => hall j (by omega), rfl⟩⟩⟩

theorem cleanLoop {R : Type} (N : Nat) (s : R) (k3 : (List (List Int × Bool) × List Int × Int × List Int × List Int × Bool × List Int × List Int × Unit) → R) (kr : (Int × Unit) → R) (c1 : List Ml) (c2 c3 : Int) (seen : List (List Int × Bool)) (ls : List (List Int))
    (a1 : List Int) (a2 : Int) (a3 a4 : List Int) (a5 : Bool) (a6 a7 : List Int) (hN : 1048577 < N) (hl : ls.length ≤ 1048577) (hs : ∀ p ∈ ls, p.length ≤ 1048576) (Q : R → Prop)
    (h0 : (ls.all fun p => p.all plainCh) = true → Q (k3 (seen, a1, a2, a3, a4, a5, a6, a7, ()))) (h1 : (ls.all fun p => p.all plainCh) = false → Q (kr ((3 : Int), ()))) (n : Nat) (hn : ls.length < n) :
    Q (iter (wrackref2_MailErr.s1 N s k3 kr (c1, c2, c3, (ls.length : Int), ())) s n (seen, ls, (0 : Int), a1, a2, a3, a4, a5, a6, a7, ())) := by
  refine iter_rule (fun v => ∃ i : Nat, v = (seen, ls, (i : Int), a1, a2, a3, a4, a5, a6, a7, ()) ∧ i ≤ ls.length ∧ ∀ j : Nat, j < i → (ls.getD j []).all plainCh = true) (fun v => ls.length - v.2.2.1.toNat) Q ?_ n _ ⟨0, rfl, Nat.zero_le _, fun j hj => absurd hj (Nat.not_lt_zero _)⟩ (by simp only; omega)
  rintro v again ⟨i, rfl, hi, hall⟩ hag
  unfold wrackref2_MailErr.s1
  simp only [decide_eq_true_eq]
  by_cases hlt : i < ls.length
  · have hm : ls.getD i [] ∈ ls := by
      rw [List.getD_eq_getElem?_getD, List.getElem?_eq_getElem hlt]
      exact List.getElem_mem hlt
    rw [if_pos (by omega), gate_pos (inR_of (by omega) (by omega)), gate_pos (inR_of (by omega) (by omega)), getI_nat, bindO_of (clean_eq N _ (hs _ hm) hN)]
    cases hc : (ls.getD i []).all plainCh with
    | true =>
      rw [if_neg (by decide), w64 (by omega) (by omega)]
      refine hag _ ⟨i + 1, by simp, by omega, fun j hj => ?_⟩ (by simp only; omega)
      rcases Nat.lt_or_eq_of_le (Nat.le_of_lt_succ hj) with h2 | h2
      · exact hall j h2
      · subst h2; exact hc
    | false =>
      rw [if_pos (by decide)]
      exact h1 (any_getD (p := fun p => p.all plainCh) hlt hc)
  · rw [if_neg (by omega)]
    exact h0 (all_getD (d := []) (fun j hj => hall j (by omega)))

theorem last_getD {t : List Int} (h : t ≠ []) : t.getLast? = some (t.getD (t.length - 1) 0) := by
  have : 0 < t.length := List.length_pos_iff.2 h
  rw [List.getLast?_eq_getElem?, List.getD_eq_getElem?_getD, List.getElem?_eq_getElem (by omega)]
  rfl

theorem merr_res (N : Nat) (l : List Ml) (hp : ∀ e ∈ l, Small e) (hN : 1048577 < N) : ∃ r, wrackref2_MailErr N l = some r ∧ ResM l r := by
  unfold wrackref2_MailErr
  simp only [decide_eq_true_eq]
  by_cases h60 : 60 < l.length
  · rw [if_pos (by omega)]
    exact ⟨9, rfl, Or.inl ⟨h60, rfl⟩⟩
  · rw [if_neg (by omega)]
    refine iter_rule (fun v => ∃ (seen : List (List Int × Bool)) (i : Nat), v = (seen, (i : Int), ()) ∧ i ≤ l.length ∧ (∀ j, j < i → mailAt l j = 0) ∧ ∀ d, (mapGet (k := .str) (v := .bool) seen d).getD false = seenM l i d) (fun v => l.length - v.2.1.toNat)
      (fun o => ∃ r, o = some r ∧ ResM l r) ?_ N _ ⟨[], 0, rfl, Nat.zero_le _, fun j hj => absurd hj (Nat.not_lt_zero _), fun d => rfl⟩ (by simp only; omega)
    rintro v again ⟨seen, i, rfl, hi, hall, hmap⟩ hag
    unfold wrackref2_MailErr.s0
    simp only [decide_eq_true_eq]
    by_cases hlt : i < l.length
    · have stop : ∀ r : Int, mailAt l i = r → r ≠ 0 → ∃ q, (some r : Option Int) = some q ∧ ResM l q := fun r h1 h2 => ⟨r, rfl, Or.inr ⟨by omega, Or.inl ⟨i, hlt, hall, by rw [h1]; exact h2, h1.symm⟩⟩⟩
      have go : mailAt l i = 0 → ∃ q, again (mapPut (k := .str) (v := .bool) seen (l.getD i ml0).2.2.1 true, (i : Int) + 1, ()) = some q ∧ ResM l q := fun h => hag _ ⟨_, i + 1, rfl, by omega, fun j hj => by
          rcases Nat.lt_or_eq_of_le (Nat.le_of_lt_succ hj) with h2 | h2
          · exact hall j h2
          · subst h2; exact h, fun d => by
          rw [mapGet_put]
          have hs : seenM l (i + 1) d = (seenM l i d || decide ((l.getD i ml0).2.2.1 = d)) := by
            unfold seenM
            rw [List.take_add_one, List.any_append, List.getElem?_eq_getElem hlt, List.getD_eq_getElem?_getD, List.getElem?_eq_getElem hlt]
            simp
          rw [hs, ← hmap d]
          by_cases hd : d = (l.getD i ml0).2.2.1
          · rw [if_pos hd, decide_eq_true hd.symm]; simp
          · rw [if_neg hd, decide_eq_false (fun e => hd e.symm)]; simp⟩ (by simp only; omega)
      rw [if_pos (by omega), gate_pos (inR_of (by omega) (by omega)), getI_nat]
      obtain ⟨q1, q2, q3, q4, q5⟩ := hp _ (ml_mem hlt)
      have ho : oneI (l.getD i ml0) = oneI (l.getD i ml0) := rfl
      conv at ho => rhs; unfold oneI
      have hmt : mailAt l i = if oneI (l.getD i ml0) = 0 then (if seenM l i (l.getD i ml0).2.2.1 = true then 7 else 0) else oneI (l.getD i ml0) := rfl
      have hmg := hmap (l.getD i ml0).2.2.1
      generalize l.getD i ml0 = m at *
      have names : (bindO (wrackref2_Word N m.1) (fun r6 => if (!r6) = true then some true else bindO (wrackref2_Word N m.2.2.1) (fun r11 => if (!r11) = true then some true else if (!decide (m.2.2.2.1 = [])) = true then bindO (wrackref2_Word N m.2.2.2.1) (fun r21 => some (!r21)) none else some false) none) none : Option Bool) = some (!(nameB m.1 && nameB m.2.2.1 && refB m.2.2.2.1)) := by
        rw [bindO_of (word_eq N _)]
        cases nameB m.1 with
        | false => rfl
        | true =>
          rw [if_neg (by decide), bindO_of (word_eq N _)]
          cases nameB m.2.2.1 with
          | false => rfl
          | true =>
            rw [if_neg (by decide)]
            unfold refB
            by_cases hr : m.2.2.2.1 = []
            · rw [decide_eq_true hr]; rfl
            · rw [decide_eq_false hr, if_pos (by decide), bindO_of (word_eq N _)]
              simp
      rw [names]
      simp only [bindO]
      cases hnm : (nameB m.1 && nameB m.2.2.1 && refB m.2.2.2.1) with
      | false =>
        rw [hnm, if_pos rfl] at ho
        rw [if_pos (by decide)]
        refine stop 6 ?_ (by decide)
        rw [hmt, ho]; rfl
      | true =>
        rw [hnm, if_neg (by decide)] at ho
        rw [if_neg (by decide)]
        have times : (if m.2.1 < 0 then some true else some (decide (m.2.1 ≥ 4294967296)) : Option Bool) = some (decide (m.2.1 < 0 ∨ 4294967295 < m.2.1)) := by
          by_cases h : m.2.1 < 0
          · rw [if_pos h, decide_eq_true (Or.inl h)]
          · rw [if_neg h]
            congr 1
            rw [Bool.eq_iff_iff]
            simp only [decide_eq_true_eq]
            omega
        rw [times]
        simp only
        by_cases ht : m.2.1 < 0 ∨ 4294967295 < m.2.1
        · rw [if_pos ht] at ho
          rw [decide_eq_true ht, if_pos rfl]
          refine stop 21 ?_ (by decide)
          rw [hmt, ho]; rfl
        · rw [if_neg ht] at ho
          rw [decide_eq_false ht, if_neg (by decide), clean_eq N _ q4 hN]
          simp only
          cases hab : m.2.2.2.2.2.1.all plainCh with
          | false =>
            rw [hab, Bool.false_and, Bool.false_and, if_pos rfl] at ho
            simp only [Bool.not_false, if_true]
            refine stop 3 ?_ (by decide)
            rw [hmt, ho]; rfl
          | true =>
            rw [hab, Bool.true_and] at ho
            simp only [Bool.not_true, Bool.false_eq_true, if_false]
            have ends : (if (!decide (m.2.2.2.2.2.2 = [])) = true then gate (inR (IntKind.wrap .i64 ((m.2.2.2.2.2.2.length : Int) - 1)) (m.2.2.2.2.2.2.length : Int)) (some (!decide (getI 0 m.2.2.2.2.2.2 (IntKind.wrap .i64 ((m.2.2.2.2.2.2.length : Int) - 1)) = 10))) none else some false : Option Bool) = some (!endsB m.2.2.2.2.2.2) := by
              by_cases he : m.2.2.2.2.2.2 = []
              · rw [decide_eq_true he, he]; rfl
              · have hpos := List.length_pos_iff.2 he
                rw [decide_eq_false he, if_pos (by decide), show IntKind.wrap .i64 ((m.2.2.2.2.2.2.length : Int) - 1) = ((m.2.2.2.2.2.2.length - 1 : Nat) : Int) by rw [w64 (by omega) (by omega)]; omega, gate_pos (inR_of (by omega) (by omega)), getI_nat, endsB_eq, decide_eq_false he, last_getD he]
                simp
            rw [ends]
            simp only
            cases hen : endsB m.2.2.2.2.2.2 with
            | false =>
              rw [hen, Bool.false_and, if_pos rfl] at ho
              simp only [Bool.not_false, if_true]
              refine stop 3 ?_ (by decide)
              rw [hmt, ho]; rfl
            | true =>
              rw [hen, Bool.true_and] at ho
              simp only [Bool.not_true, Bool.false_eq_true, if_false]
              have hsp : strings_Split N m.2.2.2.2.2.2 [10] = some (splitI 10 m.2.2.2.2.2.2) := by
                unfold strings_Split
                have : genSplitF m.2.2.2.2.2.2 [10] 0 (-1) = some (splitI 10 m.2.2.2.2.2.2) := by
                  simp only [genSplitF]
                  rw [if_pos ⟨trivial, trivial, by omega⟩]
                rw [bindO_of this]
              rw [hsp]
              simp only
              obtain ⟨z1, z2⟩ := splitI_len 10 m.2.2.2.2.2.2
              refine cleanLoop N none _ _ _ _ _ _ _ _ _ _ _ _ _ _ hN (by omega) (fun p hpm => Nat.le_trans (z2 p hpm) q5) (fun o => ∃ q, o = some q ∧ ResM l q) (fun hall2 => ?_) (fun hno => ?_) N (by omega)
              · rw [split_all] at hall2
                rw [hall2, if_neg (by decide)] at ho
                simp only
                cases hs : seenM l i m.2.2.1 with
                | true =>
                  rw [hs] at hmg
                  rw [if_pos hmg]
                  refine stop 7 ?_ (by decide)
                  rw [hmt, ho, hs]; rfl
                | false =>
                  rw [hs] at hmg
                  rw [if_neg (by intro e; rw [hmg] at e; cases e), w64 (by omega) (by omega)]
                  refine go ?_
                  rw [hmt, ho, hs]; rfl
              · rw [split_all] at hno
                rw [hno, if_pos rfl] at ho
                refine stop 3 ?_ (by decide)
                rw [hmt, ho]; rfl
    · rw [if_neg (by omega)]
      exact ⟨0, rfl, Or.inr ⟨by omega, Or.inr ⟨fun j hj => hall j (by omega), rfl⟩⟩⟩

theorem oneI_text {m : Ml} (h : oneI m = 0) : nameB m.1 = true ∧ nameB m.2.2.1 = true ∧ refB m.2.2.2.1 = true ∧ 0 ≤ m.2.1 ∧ m.2.1 ≤ 4294967295 ∧ m.2.2.2.2.2.1.all plainCh = true ∧ endsB m.2.2.2.2.2.2 = true ∧ (m.2.2.2.2.2.2.filter fun x => decide (x ≠ 10)).all plainCh = true := by
  unfold oneI at h
  split at h
  · cases h
  · rename_i h1
    split at h
    · cases h
    · rename_i h2
      split at h
      · cases h
      · rename_i h3
        simp only [Bool.not_eq_false, Bool.and_eq_true] at h1 h3
        exact ⟨h1.1.1, h1.1.2, h1.2, by omega, by omega, h3.1.1, h3.1.2, h3.2⟩

theorem resM_zero {l : List Ml} (h : ResM l 0) : l.length ≤ 60 ∧ ∀ e ∈ l, oneI e = 0 := by
  rcases h with ⟨_, h⟩ | ⟨h5, h⟩
  · exact absurd h (by decide)
  · rcases h with ⟨i, _, _, h6, h7⟩ | ⟨h6, _⟩
    · exact absurd h7.symm h6
    · refine ⟨h5, fun e he => ?_⟩
      obtain ⟨j, hj, rfl⟩ := List.getElem_of_mem he
      have := h6 j hj
      unfold mailAt at this
      rw [List.getD_eq_getElem?_getD, List.getElem?_eq_getElem hj] at this
      simp only [Option.getD_some] at this
      split at this
      · assumption
      · assumption

def headI (m : Ml) : List Int := [109, 97, 105, 108, 32] ++ m.2.2.1 ++ [32] ++ m.1 ++ [32] ++ itoaI m.2.1 ++ [10]

def refI (m : Ml) : List Int := if m.2.2.2.1 = [] then [] else [114, 101, 102, 32] ++ m.2.2.2.1 ++ [10]

def goneI (m : Ml) : List Int := if m.2.2.2.2.1 = true then [103, 111, 110, 101, 10] else []

def aboutI (m : Ml) : List Int := [97, 98, 111, 117, 116, 32] ++ m.2.2.2.2.2.1 ++ [10]

def bodyI (t : List Int) : List Int := ((linesI t).map dotI).flatten

/-- what stands ahead of the text -/
def topI (m : Ml) : List Int := headI m ++ refI m ++ goneI m ++ aboutI m

def mailI (m : Ml) : List Int := topI m ++ bodyI m.2.2.2.2.2.2 ++ [46, 10]

def mboxI (l : List Ml) : List Int := l.flatMap mailI

theorem nDigits_le : ∀ (k u : Nat), u ≤ k → Go.Lib.nDigits u ≤ u + 1 := by
  intro k
  induction k with
  | zero => intro u hu; rw [Go.Lib.nDigits_small (by omega)]; omega
  | succ k ih =>
    intro u hu
    by_cases h : u < 10
    · rw [Go.Lib.nDigits_small h]; omega
    · rw [Go.Lib.nDigits_big h]
      have := ih (u / 10) (by omega)
      omega

theorem itoaI_len {n : Int} (h : 0 ≤ n) : (itoaI n).length ≤ n.toNat + 1 := by
  unfold itoaI Go.Lib.itoa
  rw [if_neg (by omega), List.length_map, Go.Lib.decDigits_length]
  exact nDigits_le _ _ (Nat.le_refl _)

theorem bodyI_len (t : List Int) : (bodyI t).length ≤ 2 * t.length := by
  unfold bodyI
  have h1 := dots_len (linesI t)
  rw [mlines_flat] at h1
  have h2 := mlines_len t
  omega

/-- the lengths of what may be printed -/
structure Fits (m : Ml) : Prop where
  fr : m.1.length ≤ 1048576
  id : m.2.2.1.length ≤ 1048576
  rf : m.2.2.2.1.length ≤ 1048576
  ab : m.2.2.2.2.2.1.length ≤ 1048576
  tx : m.2.2.2.2.2.2.length ≤ 1048576
  tm : (itoaI m.2.1).length ≤ 4294967296

theorem fits_of {m : Ml} (h : oneI m = 0) (hs : Small m) : Fits m := by
  obtain ⟨h1, h2, h3, h4, h5, _⟩ := oneI_text h
  have := itoaI_len h4
  exact ⟨hs.1, hs.2.1, hs.2.2.1, hs.2.2.2.1, hs.2.2.2.2, by omega⟩

theorem topI_len {m : Ml} (h : Fits m) : (topI m).length ≤ 4300000000 := by
  have h1 := h.fr; have h2 := h.id; have h3 := h.rf; have h4 := h.ab; have h6 := h.tm
  unfold topI headI refI goneI aboutI
  split <;> split <;> simp only [List.length_append, List.length_cons, List.length_nil] <;> omega

theorem mailI_len {m : Ml} (h : Fits m) : (mailI m).length ≤ 4303000000 := by
  have h1 := topI_len h
  have h2 := bodyI_len m.2.2.2.2.2.2
  have h3 := h.tx
  unfold mailI
  simp only [List.length_append, List.length_cons, List.length_nil]
  omega

theorem dotsLoop {R : Type} (N : Nat) (s : R) (c : List Ml × Int × Int × Unit) (K : (List Int × Unit) → R) : ∀ (ls : List (List Int)) (acc : List Int), (∀ p ∈ ls, p ≠ []) → acc.length + ls.flatten.length + ls.length ≤ 8589934592 →
    foldR (mail_Print.r0 N s c) K ls (acc, ()) = K (acc ++ (ls.map dotI).flatten, ()) := by
  intro ls
  induction ls with
  | nil => intro acc _ _; simp [foldR]
  | cons p r ih =>
    intro acc hne hl
    simp only [List.flatten_cons, List.length_append, List.length_cons] at hl
    have hp := List.length_pos_iff.2 (hne p (by simp))
    rw [foldR]
    generalize foldR (mail_Print.r0 N s c) K r = again at *
    unfold mail_Print.r0
    simp only [decide_eq_true_eq]
    rw [gate_pos (inR_of (by omega) (by omega))]
    have hr := fun q hq => hne q (List.mem_cons_of_mem _ hq)
    cases p with
    | nil => exact absurd rfl (hne [] (by simp))
    | cons x t =>
      have e0 : getI 0 (x :: t) (0 : Int) = x := rfl
      rw [e0]
      simp only [List.length_cons] at hl
      by_cases h : x = 46
      · rw [if_pos h, g_room (by simp only [List.length_append, List.length_cons, List.length_nil]; omega) (by simp only [List.length_append, List.length_cons, List.length_nil]; omega), g_room (by simp only [List.length_append, List.length_cons, List.length_nil]; omega) (by simp only [List.length_append, List.length_cons, List.length_nil]; omega)]
        rw [ih _ hr (by simp only [List.length_append, List.length_cons, List.length_nil]; omega)]
        simp only [List.map_cons, dotI, if_pos h, List.flatten_cons, List.append_assoc, List.cons_append, List.nil_append]
      · rw [if_neg h, g_room (by simp only [List.length_append, List.length_cons, List.length_nil]; omega) (by simp only [List.length_append, List.length_cons, List.length_nil]; omega)]
        rw [ih _ hr (by simp only [List.length_append, List.length_cons, List.length_nil]; omega)]
        simp only [List.map_cons, dotI, if_neg h, List.flatten_cons, List.append_assoc, List.cons_append, List.nil_append]

theorem print_round {R : Type} (N : Nat) (s : R) (k0 : (List Int × Unit) → R) (kr : (List Int × Int × Unit) → R) (again : (Int × List Int × Unit) → R) (l : List Ml) (i : Nat) (acc : List Int) (hi : i < l.length) (hl : l.length ≤ 60) (hf : Fits (l.getD i ml0)) (ha : acc.length ≤ 65536) :
    mail_Print.s0 N s k0 kr (l, (l.length : Int), ()) again ((i : Int), acc, ()) =
      if 65536 < (acc ++ mailI (l.getD i ml0)).length then kr ([], 2, ()) else again (((i + 1 : Nat) : Int), acc ++ mailI (l.getD i ml0), ()) := by
  unfold mail_Print.s0
  simp only [decide_eq_true_eq]
  rw [if_pos (by omega), gate_pos (inR_of (by omega) (by omega)), getI_nat, w64 (by omega) (by omega)]
  generalize l.getD i ml0 = m at *
  obtain ⟨fr, tm, id, rf, gn, ab, tx⟩ := m
  obtain ⟨h1, h2, h3, h4, h5, h6⟩ := hf
  simp only at h1 h2 h3 h4 h5 h6 ⊢
  have hlf := mlines_flat tx
  have hll := mlines_len tx
  rw [g_dec (by simp only [List.length_append, List.length_cons, List.length_nil]; omega), g_dec (by simp only [List.length_append, List.length_cons, List.length_nil]; omega), g_dec (by simp only [List.length_append, List.length_cons, List.length_nil]; omega), g_dec (by simp only [List.length_append, List.length_cons, List.length_nil]; omega)]
  rw [bindO_of (show itoaF tm = some (itoaI tm) from rfl)]
  rw [g_dec (by simp only [List.length_append, List.length_cons, List.length_nil]; omega), g_dec (by simp only [List.length_append, List.length_cons, List.length_nil]; omega), g_room (by simp only [List.length_append, List.length_cons, List.length_nil]; omega) (by simp only [List.length_append, List.length_cons, List.length_nil]; omega)]
  have e1 : (if (!decide (rf = [])) = true then
      gate (decide ([114, 101, 102, 32].length + rf.length ≤ 140737488355328)) (gate (decide (([114, 101, 102, 32] ++ rf).length + [10].length ≤ 140737488355328))
        (gate (roomFor ((acc ++ (([109, 97, 105, 108, 32] ++ id ++ [32] ++ fr ++ [32] ++ itoaI tm) ++ [10])).length + (([114, 101, 102, 32] ++ rf) ++ [10]).length) 1)
          (some ((acc ++ (([109, 97, 105, 108, 32] ++ id ++ [32] ++ fr ++ [32] ++ itoaI tm) ++ [10])) ++ (([114, 101, 102, 32] ++ rf) ++ [10]), fr, tm, id, rf, gn, ab, tx, ())) none) none) none
      else some (acc ++ (([109, 97, 105, 108, 32] ++ id ++ [32] ++ fr ++ [32] ++ itoaI tm) ++ [10]), fr, tm, id, rf, gn, ab, tx, ()) : Option (List Int × List Int × Int × List Int × List Int × Bool × List Int × List Int × Unit)) =
      some (acc ++ (headI (fr, tm, id, rf, gn, ab, tx) ++ refI (fr, tm, id, rf, gn, ab, tx)), fr, tm, id, rf, gn, ab, tx, ()) := by
    unfold headI refI
    by_cases hr : rf = []
    · simp only [hr, decide_true, Bool.not_true, Bool.false_eq_true, if_false, if_true, List.append_nil]
    · rw [if_pos (by rw [decide_eq_false hr]; rfl), if_neg hr]
      rw [g_dec (by simp only [List.length_append, List.length_cons, List.length_nil]; omega), g_dec (by simp only [List.length_append, List.length_cons, List.length_nil]; omega), g_room (by simp only [List.length_append, List.length_cons, List.length_nil]; omega) (by simp only [List.length_append, List.length_cons, List.length_nil]; omega)]
      simp only [List.append_assoc]
  rw [bindO_of e1]
  have hh : (headI (fr, tm, id, rf, gn, ab, tx) ++ refI (fr, tm, id, rf, gn, ab, tx)).length ≤ 4299000000 := by
    unfold headI refI
    split <;> simp only [List.length_append, List.length_cons, List.length_nil] <;> omega
  generalize hhd : headI (fr, tm, id, rf, gn, ab, tx) ++ refI (fr, tm, id, rf, gn, ab, tx) = hd at *
  have e2 : (if gn = true then gate (roomFor ((acc ++ hd).length + [103, 111, 110, 101, 10].length) 1) (some ((acc ++ hd) ++ [103, 111, 110, 101, 10], fr, tm, id, rf, gn, ab, tx, ())) none
      else some (acc ++ hd, fr, tm, id, rf, gn, ab, tx, ()) : Option (List Int × List Int × Int × List Int × List Int × Bool × List Int × List Int × Unit)) = some (acc ++ (hd ++ goneI (fr, tm, id, rf, gn, ab, tx)), fr, tm, id, rf, gn, ab, tx, ()) := by
    unfold goneI
    cases gn with
    | true =>
      rw [if_pos rfl, if_pos rfl, g_room (by simp only [List.length_append, List.length_cons, List.length_nil]; omega) (by simp only [List.length_append, List.length_cons, List.length_nil]; omega)]
      simp only [List.append_assoc]
    | false => simp only [Bool.false_eq_true, if_false, List.append_nil]
  simp only
  rw [bindO_of e2]
  have hg : (goneI (fr, tm, id, rf, gn, ab, tx)).length ≤ 5 := by unfold goneI; split <;> simp
  generalize hgn : goneI (fr, tm, id, rf, gn, ab, tx) = g at *
  simp only
  rw [g_dec (by simp only [List.length_append, List.length_cons, List.length_nil]; omega), g_dec (by simp only [List.length_append, List.length_cons, List.length_nil]; omega), g_room (by simp only [List.length_append, List.length_cons, List.length_nil]; omega) (by simp only [List.length_append, List.length_cons, List.length_nil]; omega)]
  rw [bindO_of (show linesGo tx = some (linesI tx) from rfl), dotsLoop N s _ _ (linesI tx) _ (mlines_ne tx) (by rw [hlf]; simp only [List.length_append, List.length_cons, List.length_nil]; omega)]
  have hb := bodyI_len tx
  have ebd : ((linesI tx).map dotI).flatten = bodyI tx := rfl
  simp only [ebd]
  rw [g_room (by simp only [List.length_append, List.length_cons, List.length_nil]; omega) (by simp only [List.length_append, List.length_cons, List.length_nil]; omega)]
  have em : acc ++ (hd ++ g) ++ ([97, 98, 111, 117, 116, 32] ++ ab ++ [10]) ++ bodyI tx ++ [46, 10] = acc ++ mailI (fr, tm, id, rf, gn, ab, tx) := by
    unfold mailI topI aboutI
    rw [hhd, hgn]
    simp only [List.append_assoc]
  simp only [em]
  by_cases hbig : 65536 < (acc ++ mailI (fr, tm, id, rf, gn, ab, tx)).length
  · rw [if_pos (by omega), if_pos hbig]
  · rw [if_neg (by omega), if_neg hbig]
    rfl

/-- lines, each with its line feed -/
def unl (ls : List (List Int)) : List Int := (ls.map (· ++ [10])).flatten

theorem unl_cons (x : List Int) (r : List (List Int)) : unl (x :: r) = x ++ 10 :: unl r := by simp [unl]

theorem unl_app (a b : List (List Int)) : unl (a ++ b) = unl a ++ unl b := by simp [unl]

theorem cutI_hit {c : Int} : ∀ {x : List Int} (r : List Int), c ∉ x → cutI c (x ++ c :: r) = (x, r, true) := by
  intro x
  induction x with
  | nil => intro r _; simp [cutI]
  | cons y t ih =>
    intro r h
    simp only [List.mem_cons, not_or] at h
    simp only [List.cons_append, cutI]
    rw [if_neg (fun e => h.1 e.symm), ih r h.2]

theorem cutI_miss {c : Int} : ∀ {x : List Int}, c ∉ x → cutI c x = (x, [], false) := by
  intro x
  induction x with
  | nil => intro _; rfl
  | cons y t ih =>
    intro h
    simp only [List.mem_cons, not_or] at h
    simp only [cutI]
    rw [if_neg (fun e => h.1 e.symm), ih h.2]

/-- the reader stands before these lines; behind them there is a piece without a line feed -/
structure At (s tail : List Int) (ls : List (List Int)) (at_ : Nat) : Prop where
  le : at_ ≤ s.length
  eq : s.drop at_ = unl ls ++ tail
  noLine : ∀ x ∈ ls, (10 : Int) ∉ x
  noTail : (10 : Int) ∉ tail

theorem line_hit {N : Nat} {s tail x : List Int} {r : List (List Int)} {p : Nat} (h : At s tail (x :: r) p) (hs : s.length ≤ 65536) :
    ∃ q : Nat, mail_reader_line N (s, (p : Int)) = some ((x, true), (s, (q : Int))) ∧ At s tail r q ∧ q = p + x.length + 1 := by
  have hle := h.le
  have heq := h.eq
  have hlen := congrArg List.length heq
  rw [unl_cons] at heq hlen
  simp only [List.length_drop, List.length_append, List.length_cons] at hlen
  have hcut := cut_end s p hle
  unfold mail_reader_line
  simp only
  rw [gate_pos (bounds_of (by omega) (by omega) (by omega))]
  simp only [hcut, heq, List.append_assoc, List.cons_append]
  have hx := h.noLine x (by simp)
  rw [cutI_hit _ hx]
  rw [g_dec (by simp only [List.length_append, List.length_cons]; omega)]
  simp only [if_true]
  rw [w64 (x := (x.length : Int) + 1) (by omega) (by omega), w64 (x := (p : Int) + ((x.length : Int) + 1)) (by omega) (by omega), show (p : Int) + ((x.length : Int) + 1) = ((p + x.length + 1 : Nat) : Int) by omega]
  refine ⟨p + x.length + 1, rfl, ⟨by omega, ?_, fun y hy => h.noLine y (List.mem_cons_of_mem _ hy), h.noTail⟩, rfl⟩
  · have : s.drop (p + (x.length + 1)) = (s.drop p).drop (x.length + 1) := by rw [List.drop_drop]
    rw [show p + x.length + 1 = p + (x.length + 1) by omega, this, heq, List.append_assoc, List.drop_append, List.cons_append]
    simp

theorem line_miss {N : Nat} {s tail : List Int} {p : Nat} (h : At s tail [] p) (hs : s.length ≤ 65536) : mail_reader_line N (s, (p : Int)) = some ((tail, false), (s, (p : Int))) := by
  have hle := h.le
  have heq := h.eq
  have hlen := congrArg List.length heq
  simp only [unl, List.map_nil, List.flatten_nil, List.nil_append] at heq hlen
  simp only [List.length_drop] at hlen
  have hcut := cut_end s p hle
  unfold mail_reader_line
  simp only
  rw [gate_pos (bounds_of (by omega) (by omega) (by omega))]
  simp only [hcut, heq]
  rw [cutI_miss h.noTail, g_dec (by omega)]
  simp

def preB (w x : List Int) : Bool := decide (x.take w.length = w)

theorem hasPre_eq (N : Nat) (s p : List Int) : stringslite_HasPrefix N s p = some (preB p s) := by
  unfold stringslite_HasPrefix preB
  simp only [decide_eq_true_eq]
  by_cases h : (s.length : Int) ≥ p.length
  · rw [if_pos h, gate_pos (bounds_of (by omega) (by omega) (by omega))]
    have := cut_nat s 0 p.length (Nat.zero_le _)
    simp only [Int.natCast_zero, List.drop_zero, Nat.sub_zero] at this
    simp only [bindO]
    rw [← this]
  · rw [if_neg h]
    simp only [bindO, Option.some.injEq]
    symm
    rw [decide_eq_false_iff_not]
    intro e
    have := congrArg List.length e
    rw [List.length_take] at this
    omega

theorem preB_len {w x : List Int} (h : preB w x = true) : w.length ≤ x.length := by
  unfold preB at h
  have := congrArg List.length (of_decide_eq_true h)
  rw [List.length_take] at this
  omega

theorem cutPre_eq (N : Nat) (s p : List Int) : strings_CutPrefix N s p = some (if preB p s = true then (s.drop p.length, true) else (s, false)) := by
  have key : stringslite_CutPrefix N s p = some (if preB p s = true then (s.drop p.length, true) else (s, false)) := by
    unfold stringslite_CutPrefix
    rw [bindO_of (hasPre_eq N s p)]
    cases h : preB p s with
    | false => rfl
    | true =>
      have hl := preB_len h
      simp only [Bool.not_true, Bool.false_eq_true, if_false, if_true]
      rw [gate_pos (bounds_of (by omega) (by omega) (by omega)), cut_end s p.length hl]
  unfold strings_CutPrefix
  rw [bindO_of key]

theorem trimPre_eq (N : Nat) (s p : List Int) : strings_TrimPrefix N s p = some (if preB p s = true then s.drop p.length else s) := by
  have key : stringslite_TrimPrefix N s p = some (if preB p s = true then s.drop p.length else s) := by
    unfold stringslite_TrimPrefix
    rw [bindO_of (hasPre_eq N s p)]
    cases h : preB p s with
    | false => rfl
    | true =>
      have hl := preB_len h
      simp only [if_true]
      rw [gate_pos (bounds_of (by omega) (by omega) (by omega)), cut_end s p.length hl]
  unfold strings_TrimPrefix
  rw [bindO_of key]

theorem hasPrefix_eq (N : Nat) (s p : List Int) : strings_HasPrefix N s p = some (preB p s) := by
  unfold strings_HasPrefix
  rw [bindO_of (hasPre_eq N s p)]

theorem word_hit {N : Nat} {s tail x w : List Int} {r : List (List Int)} {p : Nat} (h : At s tail (x :: r) p) (hs : s.length ≤ 65536) (hw : preB w x = true) :
    ∃ q : Nat, mail_reader_word N (s, (p : Int)) w = some ((x.drop w.length, true), (s, (q : Int))) ∧ At s tail r q ∧ q = p + x.length + 1 := by
  obtain ⟨q, e1, e2, e3⟩ := line_hit (N := N) h hs
  refine ⟨q, ?_, e2, e3⟩
  unfold mail_reader_word
  rw [bindO_of e1]
  simp only
  rw [bindO_of (cutPre_eq N x w), if_pos hw]
  rfl

theorem word_off {N : Nat} {s tail x w : List Int} {r : List (List Int)} {p : Nat} (h : At s tail (x :: r) p) (hs : s.length ≤ 65536) (hw : preB w x = false) :
    mail_reader_word N (s, (p : Int)) w = some (([], false), (s, (p : Int))) := by
  obtain ⟨q, e1, e2, e3⟩ := line_hit (N := N) h hs
  unfold mail_reader_word
  rw [bindO_of e1]
  simp only
  rw [bindO_of (cutPre_eq N x w)]
  simp only [hw, Bool.false_eq_true, if_false]
  rfl

theorem word_miss {N : Nat} {s tail w : List Int} {p : Nat} (h : At s tail [] p) (hs : s.length ≤ 65536) :
    mail_reader_word N (s, (p : Int)) w = some (([], false), (s, (p : Int))) := by
  have e1 := line_miss (N := N) h hs
  unfold mail_reader_word
  rw [bindO_of e1]
  simp only
  rw [bindO_of (cutPre_eq N tail w)]
  rfl

/-- a line that begins with a single dot -/
def badDot (x : List Int) : Bool := preB [46] x && (decide (x.drop 1 = []) || !decide (getI 0 (x.drop 1) (0 : Int) = 46))

def undot (x : List Int) : List Int := if preB [46] x = true then x.drop 1 else x

def txtL : List (List Int) → List Int → Option (List Int × List (List Int))
  | [], _ => none
  | x :: r, acc => if x = [46] then some (acc, r) else if badDot x = true then none else txtL r (acc ++ (undot x ++ [10]))

def aboutL (fr : List Int) (tm : Int) (id rf : List Int) (gn : Bool) : List (List Int) → Option (Ml × List (List Int))
  | [] => none
  | x :: r => if preB [97, 98, 111, 117, 116, 32] x = true then
      match txtL r [] with
      | some (t, r2) => if oneI (fr, tm, id, rf, gn, x.drop 6, t) = 0 then some ((fr, tm, id, rf, gn, x.drop 6, t), r2) else none
      | none => none
    else none

def goneL (fr : List Int) (tm : Int) (id rf : List Int) : List (List Int) → Option (Ml × List (List Int))
  | [] => none
  | x :: r => if preB [103, 111, 110, 101] x = true then (if x.drop 4 = [] then aboutL fr tm id rf true r else none) else aboutL fr tm id rf false (x :: r)

def refL (fr : List Int) (tm : Int) (id : List Int) : List (List Int) → Option (Ml × List (List Int))
  | [] => none
  | x :: r => if preB [114, 101, 102, 32] x = true then (if x.drop 4 = [] then none else goneL fr tm id (x.drop 4) r) else goneL fr tm id [] (x :: r)

def headOf (x : List Int) : Option (List Int × Int × List Int) :=
  if preB [109, 97, 105, 108, 32] x = true then
    (if (splitI 32 (x.drop 5)).length = 3 ∧ (atoiI ((splitI 32 (x.drop 5)).getD 2 [])).2 = true ∧ itoaI (atoiI ((splitI 32 (x.drop 5)).getD 2 [])).1 = (splitI 32 (x.drop 5)).getD 2 [] then
      some ((splitI 32 (x.drop 5)).getD 1 [], (atoiI ((splitI 32 (x.drop 5)).getD 2 [])).1, (splitI 32 (x.drop 5)).getD 0 [])
    else none)
  else none

def mailL : List (List Int) → Option (Ml × List (List Int))
  | [] => none
  | x :: r => match headOf x with
    | some (fr, tm, id) => refL fr tm id r
    | none => none

/-- what a call of the reader comes to -/
def Ends (s tail : List Int) (o : Option (Ml × List (List Int))) (res : Option ((Ml × Bool) × (List Int × Int))) : Prop :=
  ∃ (m : Ml) (ok : Bool) (q : Nat), res = some ((m, ok), (s, (q : Int))) ∧ match o with
    | some (m', r) => m = m' ∧ ok = true ∧ At s tail r q
    | none => ok = false

theorem undot_len (x : List Int) : (undot x).length ≤ x.length := by
  unfold undot
  split
  · simp
  · omega

theorem line_len {s tail x : List Int} {r : List (List Int)} {p : Nat} (h : At s tail (x :: r) p) : p + x.length + 1 ≤ s.length := by
  have hlen := congrArg List.length h.eq
  have := h.le
  rw [unl_cons] at hlen
  simp only [List.length_drop, List.length_append, List.length_cons] at hlen
  omega

theorem textRun (N : Nat) (K : (List Int × Int × Bool × List Int × Int × List Int × List Int × Bool × List Int × List Int × Unit) → Option ((Ml × Bool) × (List Int × Int)))
    (hK : ∀ a1 a2 a3 b1 b2 b3 b4 b5 b6 b7, K (a1, a2, a3, b1, b2, b3, b4, b5, b6, b7, ()) = some (((b1, (b2, (b3, (b4, (b5, (b6, b7)))))), a3), (a1, a2)))
    (s tail fr : List Int) (tm : Int) (id rf : List Int) (gn : Bool) (ab : List Int) (z1 : List Int) (z2 : Int) (z3 z4 : List Int) (z5 : Bool) (z6 z7 : List Int) (hs : s.length ≤ 65536) (hN : 1048577 < N) (h1 : fr.length ≤ 65536) (h2 : id.length ≤ 65536) (h3 : rf.length ≤ 65536) (h4 : ab.length ≤ 65536) :
    ∀ (ls : List (List Int)) (p : Nat) (acc : List Int) (n : Nat), At s tail ls p → acc.length ≤ p → ls.length < n →
      Ends s tail (match txtL ls acc with
        | some (t, r2) => if oneI (fr, tm, id, rf, gn, ab, t) = 0 then some ((fr, tm, id, rf, gn, ab, t), r2) else none
        | none => none) (iter (mail_reader_mail.s0 N none K ()) none n (s, (p : Int), z1, z2, z3, z4, z5, z6, z7, fr, tm, id, rf, gn, ab, [], acc, ())) := by
  intro ls
  induction ls with
  | nil =>
    intro p acc n h ha hn
    obtain ⟨n, rfl⟩ := Nat.exists_eq_succ_of_ne_zero (show n ≠ 0 by omega)
    rw [iter_eq]
    unfold mail_reader_mail.s0
    simp only
    rw [bindO_of (line_miss (N := N) h hs)]
    simp only [Bool.not_false, if_true, hK]
    exact ⟨_, false, p, rfl, rfl⟩
  | cons x r ih =>
    intro p acc n h ha hn
    obtain ⟨n, rfl⟩ := Nat.exists_eq_succ_of_ne_zero (show n ≠ 0 by omega)
    rw [iter_eq]
    obtain ⟨q, e1, e2, e3⟩ := line_hit (N := N) h hs
    have hll := line_len h
    generalize hag : iter (mail_reader_mail.s0 N none K ()) none n = again at *
    have ih2 : ∀ (acc' : List Int), acc'.length ≤ q → Ends s tail (match txtL r acc' with
        | some (t, r2) => if oneI (fr, tm, id, rf, gn, ab, t) = 0 then some ((fr, tm, id, rf, gn, ab, t), r2) else none
        | none => none) (again (s, (q : Int), z1, z2, z3, z4, z5, z6, z7, fr, tm, id, rf, gn, ab, [], acc', ())) := fun acc' h' => by
      rw [← hag]
      exact ih q acc' n e2 h' (by simp only [List.length_cons] at hn; omega)
    unfold mail_reader_mail.s0
    simp only [decide_eq_true_eq]
    rw [bindO_of e1]
    simp only [Bool.not_true, Bool.false_eq_true, if_false]
    simp only [txtL]
    by_cases hdot : x = [46]
    · rw [if_pos hdot, if_pos hdot]
      have hsm : Small (fr, tm, id, rf, gn, ab, acc) := ⟨by simp only; omega, by simp only; omega, by simp only; omega, by simp only; omega, by simp only; omega⟩
      rw [bindO_of (one_eq N _ hsm hN)]
      simp only [hK]
      refine ⟨_, _, q, rfl, ?_⟩
      by_cases h0 : oneI (fr, tm, id, rf, gn, ab, acc) = 0
      · rw [if_pos h0]
        exact ⟨rfl, decide_eq_true h0, e2⟩
      · rw [if_neg h0]
        exact decide_eq_false h0
    · rw [if_neg hdot, if_neg hdot, bindO_of (cutPre_eq N x [46])]
      have hbad : ∀ (K2 : Bool → Option ((Ml × Bool) × (List Int × Int))), bindO (if (if preB [46] x = true then (x.drop [(46 : Int)].length, true) else (x, false)).2 = true then (if (if preB [46] x = true then (x.drop [(46 : Int)].length, true) else (x, false)).1 = [] then some true else gate (inR (0 : Int) ((if preB [46] x = true then (x.drop [(46 : Int)].length, true) else (x, false)).1.length : Int)) (some (!decide (getI 0 (if preB [46] x = true then (x.drop [(46 : Int)].length, true) else (x, false)).1 (0 : Int) = 46))) none) else some false : Option Bool) K2 none = K2 (badDot x) := by
        intro K2
        unfold badDot
        cases hp : preB [46] x with
        | false => rfl
        | true =>
          simp only [if_true, Bool.true_and, List.length_cons, List.length_nil, Nat.zero_add]
          by_cases hd : x.drop 1 = []
          · rw [if_pos hd, decide_eq_true hd]; rfl
          · have := List.length_pos_iff.2 hd
            rw [if_neg hd, gate_pos (inR_of (by omega) (by omega)), decide_eq_false hd]
            rfl
      rw [hbad]
      cases hb : badDot x with
      | true =>
        rw [if_pos rfl, if_pos rfl, hK]
        exact ⟨_, false, q, rfl, rfl⟩
      | false =>
        rw [if_neg (by decide), if_neg (by decide), bindO_of (trimPre_eq N x [46])]
        have hun : (if preB [46] x = true then x.drop [(46 : Int)].length else x) = undot x := rfl
        rw [hun]
        have hul := undot_len x
        rw [g_dec (by simp only [List.length_cons, List.length_nil]; omega), g_room (by simp only [List.length_append, List.length_cons, List.length_nil]; omega) (by simp only [List.length_append, List.length_cons, List.length_nil]; omega)]
        exact ih2 _ (by simp only [List.length_append, List.length_cons, List.length_nil]; omega)

theorem mail_step (N : Nat) (s tail : List Int) (hs : s.length ≤ 65536) (hN : 1048577 < N) (ls : List (List Int)) (p : Nat) (h : At s tail ls p) (hln : ls.length ≤ 65536) : Ends s tail (mailL ls) (mail_reader_mail N (s, (p : Int))) := by
  unfold mail_reader_mail
  have hsplit : ∀ x : List Int, x.length ≤ 65536 → strings_Split N x [32] = some (splitI 32 x) := by
    intro x hx
    unfold strings_Split
    have : genSplitF x [32] 0 (-1) = some (splitI 32 x) := by
      simp only [genSplitF]
      rw [if_pos ⟨trivial, trivial, by omega⟩]
    rw [bindO_of this]
  -- the first line
  cases ls with
  | nil =>
    rw [bindO_of (word_miss (N := N) h hs)]
    simp only
    rw [bindO_of (hsplit [] (by simp))]
    simp only [Bool.not_false, if_true, bindO]
    exact ⟨_, false, p, rfl, rfl⟩
  | cons x r =>
    have hll := line_len h
    cases hw : preB [109, 97, 105, 108, 32] x with
    | false =>
      rw [bindO_of (word_off (N := N) h hs hw)]
      simp only
      rw [bindO_of (hsplit [] (by simp))]
      simp only [Bool.not_false, if_true, bindO, mailL, headOf, hw, Bool.false_eq_true, if_false]
      exact ⟨_, false, p, rfl, rfl⟩
    | true =>
      obtain ⟨q, e1, e2, e3⟩ := word_hit (N := N) h hs hw
      rw [bindO_of e1]
      simp only
      rw [bindO_of (hsplit _ (by rw [List.length_drop]; omega))]
      have hhead : headOf x = if (splitI 32 (x.drop 5)).length = 3 ∧ (atoiI ((splitI 32 (x.drop 5)).getD 2 [])).2 = true ∧ itoaI (atoiI ((splitI 32 (x.drop 5)).getD 2 [])).1 = (splitI 32 (x.drop 5)).getD 2 [] then
          some ((splitI 32 (x.drop 5)).getD 1 [], (atoiI ((splitI 32 (x.drop 5)).getD 2 [])).1, (splitI 32 (x.drop 5)).getD 0 []) else none := by
        unfold headOf
        rw [if_pos hw]
      have hml : mailL (x :: r) = match (if (splitI 32 (x.drop 5)).length = 3 ∧ (atoiI ((splitI 32 (x.drop 5)).getD 2 [])).2 = true ∧ itoaI (atoiI ((splitI 32 (x.drop 5)).getD 2 [])).1 = (splitI 32 (x.drop 5)).getD 2 [] then
          some ((splitI 32 (x.drop 5)).getD 1 [], (atoiI ((splitI 32 (x.drop 5)).getD 2 [])).1, (splitI 32 (x.drop 5)).getD 0 []) else none : Option (List Int × Int × List Int)) with
          | some (fr, tm, id) => refL fr tm id r
          | none => none := by
        simp only [mailL]
        rw [hhead]
      clear hhead
      generalize mailL (x :: r) = o at *
      simp only [List.length_cons, List.length_nil, Nat.zero_add, Nat.reduceAdd]
      obtain ⟨z1, z2⟩ := splitI_len 32 (x.drop 5)
      have hdl : (x.drop 5).length ≤ 65536 := by rw [List.length_drop]; omega
      generalize splitI 32 (x.drop 5) = ws at *
      by_cases h3 : ws.length = 3
      · have hz : ∀ i, i < 3 → (ws.getD i []).length ≤ 65536 := by
          intro i hi
          rw [List.getD_eq_getElem?_getD, List.getElem?_eq_getElem (by omega)]
          have := z2 _ (List.getElem_mem (show i < ws.length by omega))
          simp only [Option.getD_some]
          omega
        have g2 : getI [] ws (2 : Int) = ws.getD 2 [] := getI_nat [] ws 2
        have g1 : getI [] ws (1 : Int) = ws.getD 1 [] := getI_nat [] ws 1
        have g0 : getI [] ws (0 : Int) = ws.getD 0 [] := getI_nat [] ws 0
        have hl2 := hz 2 (by omega)
        have hl1 := hz 1 (by omega)
        have hl0 := hz 0 (by omega)
        simp only [g2, g1, g0]
        have c1 : (if (!true) = true then some true else some (!decide ((ws.length : Int) = 3)) : Option Bool) = some false := by
          rw [if_neg (by decide), decide_eq_true (show (ws.length : Int) = 3 by omega)]; rfl
        rw [bindO_of c1, if_neg (by decide), gate_pos (inR_of (by omega) (by omega)), gate_pos (inR_of (by omega) (by omega)), g_dec (by omega)]
        generalize ws.getD 2 [] = w2 at *
        generalize ws.getD 1 [] = w1 at *
        generalize ws.getD 0 [] = w0 at *
        have c2 : (if (!(atoiI w2).2) = true then some true else bindO (itoaF (atoiI w2).1) (fun r41 => gate (inR (2 : Int) (ws.length : Int)) (gate (inR (2 : Int) (ws.length : Int)) (some (!decide (r41 = w2))) none) none) none : Option Bool) = some (!(decide ((atoiI w2).2 = true ∧ itoaI (atoiI w2).1 = w2))) := by
          cases ha : (atoiI w2).2 with
          | false => simp
          | true =>
            rw [if_neg (by decide), bindO_of (show itoaF (atoiI w2).1 = some (itoaI (atoiI w2).1) from rfl), gate_pos (inR_of (by omega) (by omega)), gate_pos (inR_of (by omega) (by omega))]
            simp
        rw [bindO_of c2]
        by_cases hok : (atoiI w2).2 = true ∧ itoaI (atoiI w2).1 = w2
        · rw [if_pos ⟨h3, hok⟩] at hml
          simp only at hml
          subst hml
          rw [decide_eq_true hok, if_neg (by decide), gate_pos (inR_of (by omega) (by omega)), gate_pos (inR_of (by omega) (by omega)), gate_pos (inR_of (by omega) (by omega)), gate_pos (inR_of (by omega) (by omega))]
          generalize (atoiI w2).1 = tm at *
          clear c2 hok
          have hrl : r.length ≤ 65536 := by simp only [List.length_cons] at hln; omega
          -- the text behind 'about'
          have about : ∀ (rf : List Int) (gn : Bool) (ls : List (List Int)) (p : Nat) (z2 : Int) (z7 : Bool), rf.length ≤ 65536 → ls.length ≤ 65536 → At s tail ls p →
              Ends s tail (aboutL w1 tm w0 rf gn ls) (bindO (mail_reader_word N (s, (p : Int)) [97, 98, 111, 117, 116, 32]) (fun r83 =>
                if (!r83.1.2) = true then some (((w1, (tm, (w0, (rf, (gn, (r83.1.1, [])))))), false), r83.2)
                else iter (mail_reader_mail.s0 N none (fun (x933 : List Int × Int × Bool × List Int × Int × List Int × List Int × Bool × List Int × List Int × Unit) =>
                  some (((x933.2.2.2.1, (x933.2.2.2.2.1, (x933.2.2.2.2.2.1, (x933.2.2.2.2.2.2.1, (x933.2.2.2.2.2.2.2.1, (x933.2.2.2.2.2.2.2.2.1, x933.2.2.2.2.2.2.2.2.2.1)))))), x933.2.2.1), (x933.1, x933.2.1))) ()) none N (r83.2.1, r83.2.2, [], z2, [], [], z7, [], [], w1, tm, w0, rf, gn, r83.1.1, [], [], ())) none) := by
            intro rf gn ls p zz2 zz7 hrf hl hat
            cases ls with
            | nil =>
              rw [bindO_of (word_miss (N := N) hat hs)]
              simp only [Bool.not_false, if_true]
              exact ⟨_, false, p, rfl, rfl⟩
            | cons y r2 =>
              cases hy : preB [97, 98, 111, 117, 116, 32] y with
              | false =>
                rw [bindO_of (word_off (N := N) hat hs hy)]
                simp only [Bool.not_false, if_true, aboutL, hy, Bool.false_eq_true, if_false]
                exact ⟨_, false, p, rfl, rfl⟩
              | true =>
                obtain ⟨q2, f1, f2, f3⟩ := word_hit (N := N) hat hs hy
                have hyl := line_len hat
                rw [bindO_of f1]
                simp only [Bool.not_true, Bool.false_eq_true, if_false, aboutL, hy, if_true, List.length_cons, List.length_nil, Nat.zero_add, Nat.reduceAdd]
                exact textRun N _ (fun _ _ _ _ _ _ _ _ _ _ => rfl) s tail w1 tm w0 rf gn (y.drop 6) _ _ _ _ _ _ _ hs hN hl1 hl0 hrf (by rw [List.length_drop]; omega) r2 q2 [] N f2 (by simp) (by simp only [List.length_cons] at hl; omega)
          -- 'gone'
          have gone : ∀ (rf : List Int) (ls : List (List Int)) (p : Nat), rf.length ≤ 65536 → ls.length ≤ 65536 → At s tail ls p →
              Ends s tail (goneL w1 tm w0 rf ls) (bindO (mail_reader_word N (s, (p : Int)) [103, 111, 110, 101]) (fun r73 =>
                if r73.1.2 = true then
                  if (!decide (r73.1.1 = [])) = true then some (((w1, (tm, (w0, (rf, (true, ([], [])))))), false), r73.2)
                  else bindO (mail_reader_word N r73.2 [97, 98, 111, 117, 116, 32]) (fun r83 =>
                    if (!r83.1.2) = true then some (((w1, (tm, (w0, (rf, (true, (r83.1.1, [])))))), false), r83.2)
                    else iter (mail_reader_mail.s0 N none (fun (x933 : List Int × Int × Bool × List Int × Int × List Int × List Int × Bool × List Int × List Int × Unit) =>
                      some (((x933.2.2.2.1, (x933.2.2.2.2.1, (x933.2.2.2.2.2.1, (x933.2.2.2.2.2.2.1, (x933.2.2.2.2.2.2.2.1, (x933.2.2.2.2.2.2.2.2.1, x933.2.2.2.2.2.2.2.2.2.1)))))), x933.2.2.1), (x933.1, x933.2.1))) ()) none N (r83.2.1, r83.2.2, [], (0 : Int), [], [], false, [], [], w1, tm, w0, rf, true, r83.1.1, [], [], ())) none
                else bindO (mail_reader_word N r73.2 [97, 98, 111, 117, 116, 32]) (fun r83 =>
                    if (!r83.1.2) = true then some (((w1, (tm, (w0, (rf, (false, (r83.1.1, [])))))), false), r83.2)
                    else iter (mail_reader_mail.s0 N none (fun (x933 : List Int × Int × Bool × List Int × Int × List Int × List Int × Bool × List Int × List Int × Unit) =>
                      some (((x933.2.2.2.1, (x933.2.2.2.2.1, (x933.2.2.2.2.2.1, (x933.2.2.2.2.2.2.1, (x933.2.2.2.2.2.2.2.1, (x933.2.2.2.2.2.2.2.2.1, x933.2.2.2.2.2.2.2.2.2.1)))))), x933.2.2.1), (x933.1, x933.2.1))) ()) none N (r83.2.1, r83.2.2, [], (0 : Int), [], [], false, [], [], w1, tm, w0, rf, false, r83.1.1, [], [], ())) none) none) := by
            intro rf ls p hrf hl hat
            cases ls with
            | nil =>
              rw [bindO_of (word_miss (N := N) hat hs)]
              simp only [Bool.false_eq_true, if_false, goneL]
              exact about rf false [] p 0 false hrf hl hat
            | cons y r2 =>
              cases hy : preB [103, 111, 110, 101] y with
              | false =>
                rw [bindO_of (word_off (N := N) hat hs hy)]
                simp only [Bool.false_eq_true, if_false, goneL, hy]
                exact about rf false (y :: r2) p 0 false hrf hl hat
              | true =>
                obtain ⟨q2, f1, f2, f3⟩ := word_hit (N := N) hat hs hy
                rw [bindO_of f1]
                simp only [if_true, goneL, hy, List.length_cons, List.length_nil, Nat.zero_add, Nat.reduceAdd]
                by_cases hd : y.drop 4 = []
                · rw [if_pos hd, decide_eq_true hd, if_neg (by decide)]
                  exact about rf true r2 q2 0 false hrf (by simp only [List.length_cons] at hl; omega) f2
                · rw [if_neg hd, decide_eq_false hd, if_pos (by decide)]
                  exact ⟨_, false, q2, rfl, rfl⟩
          -- 'ref'
          cases hr : r with
          | nil =>
            rw [hr] at e2
            rw [bindO_of (word_miss (N := N) e2 hs)]
            simp only [Bool.false_eq_true, if_false, b_some, refL]
            exact gone [] [] q (by simp) (by simp) e2
          | cons y r2 =>
            rw [hr] at e2 hrl
            cases hy : preB [114, 101, 102, 32] y with
            | false =>
              rw [bindO_of (word_off (N := N) e2 hs hy)]
              simp only [Bool.false_eq_true, if_false, b_some, refL, hy]
              exact gone [] (y :: r2) q (by simp) hrl e2
            | true =>
              obtain ⟨q2, f1, f2, f3⟩ := word_hit (N := N) e2 hs hy
              have hyl := line_len e2
              rw [bindO_of f1]
              simp only [if_true, b_some, refL, hy, List.length_cons, List.length_nil, Nat.zero_add, Nat.reduceAdd]
              by_cases hd : y.drop 4 = []
              · rw [if_pos hd, decide_eq_true hd, if_pos rfl]
                exact ⟨_, false, q2, rfl, rfl⟩
              · rw [if_neg hd, decide_eq_false hd, if_neg (by decide)]
                exact gone (y.drop 4) r2 q2 (by rw [List.length_drop]; omega) (by simp only [List.length_cons] at hrl; omega) f2
        · rw [if_neg (fun h => hok h.2)] at hml
          simp only at hml
          subst hml
          rw [decide_eq_false hok, if_pos (by decide)]
          exact ⟨_, false, q, rfl, rfl⟩
      · have c1 : (if (!true) = true then some true else some (!decide ((ws.length : Int) = 3)) : Option Bool) = some true := by
          rw [if_neg (by decide), decide_eq_false (show ¬ (ws.length : Int) = 3 by omega)]; rfl
        rw [if_neg (fun h => h3 h.1)] at hml
        simp only at hml
        subst hml
        rw [bindO_of c1, if_pos rfl]
        exact ⟨_, false, q, rfl, rfl⟩

theorem parse_digits : ∀ (k u : Nat), u ≤ k → u < 9223372036854775808 → ∀ r, Go.Lib.parseUint10 0 (Go.Lib.decDigits u ++ r) = Go.Lib.parseUint10 u r := by
  intro k
  induction k with
  | zero =>
    intro u hu _ r
    have : u = 0 := by omega
    subst this
    rw [Go.Lib.decDigits, dif_pos (by omega)]
    rfl
  | succ k ih =>
    intro u hu hb r
    by_cases h : u < 10
    · rw [Go.Lib.decDigits, dif_pos h]
      simp only [List.cons_append, List.nil_append, Go.Lib.parseUint10]
      have e : (UInt8.ofNat (48 + u)).toNat = 48 + u := by
        simp
        omega
      rw [e, if_pos (by omega), if_neg (by omega), if_neg (by omega)]
      congr 1
      omega
    · rw [Go.Lib.decDigits, dif_neg h, List.append_assoc, ih (u / 10) (by omega) (by omega)]
      simp only [List.cons_append, List.nil_append, Go.Lib.parseUint10]
      have e : (UInt8.ofNat (48 + u % 10)).toNat = 48 + u % 10 := by
        simp
        omega
      rw [e, if_pos (by omega), if_neg (by omega), if_neg (by omega)]
      congr 1
      omega

theorem digit_first (u : Nat) : ∃ c r, Go.Lib.decDigits u = c :: r ∧ 48 ≤ c.toNat := by
  induction u using Nat.strongRecOn with
  | _ u ih =>
    by_cases h : u < 10
    · rw [Go.Lib.decDigits, dif_pos h]
      refine ⟨_, [], rfl, ?_⟩
      simp
      omega
    · rw [Go.Lib.decDigits, dif_neg h]
      obtain ⟨c, r, e, h1⟩ := ih (u / 10) (by omega)
      exact ⟨c, r ++ [UInt8.ofNat (48 + u % 10)], by rw [e]; rfl, h1⟩

theorem digit_all (u : Nat) : ∀ c ∈ Go.Lib.decDigits u, 48 ≤ c.toNat ∧ c.toNat ≤ 57 := by
  induction u using Nat.strongRecOn with
  | _ u ih =>
    intro c hc
    by_cases h : u < 10
    · rw [Go.Lib.decDigits, dif_pos h, List.mem_singleton] at hc
      subst hc
      simp
      omega
    · rw [Go.Lib.decDigits, dif_neg h, List.mem_append, List.mem_singleton] at hc
      rcases hc with hc | hc
      · exact ih (u / 10) (by omega) c hc
      · subst hc
        simp
        omega

theorem atoi_itoa {n : Int} (h1 : 0 ≤ n) (h2 : n ≤ 4294967295) : atoiI (itoaI n) = (n, true) := by
  have e1 : toB (itoaI n) = Go.Lib.decDigits n.toNat := by
    unfold toB itoaI Go.Lib.itoa
    rw [if_neg (by omega), List.map_map]
    refine (List.map_congr_left fun b _ => ?_).trans (List.map_id _)
    simp
  obtain ⟨c, r, e2, e3⟩ := digit_first n.toNat
  have e4 : Go.Lib.atoiAll (Go.Lib.decDigits n.toNat) = .ok n := by
    have hm : Go.Lib.parseMag (Go.Lib.decDigits n.toNat) = .ok n.toNat := by
      unfold Go.Lib.parseMag
      rw [if_neg (by rw [e2]; simp)]
      have := parse_digits n.toNat n.toNat (Nat.le_refl _) (by omega) []
      rw [List.append_nil] at this
      rw [this]
      rfl
    rw [e2] at hm ⊢
    unfold Go.Lib.atoiAll
    simp only
    rw [if_neg (by omega), hm]
    simp only
    rw [if_neg (by omega), if_neg (by omega), if_neg (by omega)]
    congr 1
    omega
  unfold atoiI
  rw [e1, e4]

theorem itoaI_mem {n : Int} (h : 0 ≤ n) : ∀ x ∈ itoaI n, 48 ≤ x ∧ x ≤ 57 := by
  intro x hx
  unfold itoaI Go.Lib.itoa at hx
  rw [if_neg (by omega), List.mem_map] at hx
  obtain ⟨c, hc, rfl⟩ := hx
  have := digit_all _ c hc
  omega

def headX (m : Ml) : List Int := [109, 97, 105, 108, 32] ++ (m.2.2.1 ++ 32 :: (m.1 ++ 32 :: itoaI m.2.1))

def linesM (m : Ml) : List (List Int) :=
  headX m :: ((if m.2.2.2.1 = [] then [] else [[114, 101, 102, 32] ++ m.2.2.2.1]) ++ ((if m.2.2.2.2.1 = true then [[103, 111, 110, 101]] else []) ++
    (([97, 98, 111, 117, 116, 32] ++ m.2.2.2.2.2.1) :: ((splitI 10 m.2.2.2.2.2.2).dropLast.map dotI ++ [[46]]))))

theorem unl_lines (m : Ml) (he : endsB m.2.2.2.2.2.2 = true) : unl (linesM m) = mailI m := by
  have hd := dots_ends m.2.2.2.2.2.2 he
  unfold linesM mailI topI headI refI goneI aboutI bodyI headX
  rw [unl_cons, unl_app, unl_app, unl_cons, unl_app]
  rw [hd]
  unfold unl
  split <;> split <;> simp

theorem split_free (c : Int) : ∀ l : List Int, ∀ p ∈ splitI c l, c ∉ p := by
  intro l
  induction l with
  | nil => intro p hp; simp [splitI] at hp; subst hp; simp
  | cons x r ih =>
    intro p hp
    by_cases h : x = c
    · subst h
      rw [splitI_at] at hp
      rcases List.mem_cons.1 hp with hp | hp
      · subst hp; simp
      · exact ih p hp
    · cases hs : splitI c r with
      | nil => exact absurd hs (splitI_ne c r)
      | cons a b =>
        rw [splitI_off h hs] at hp
        rw [hs] at ih
        rcases List.mem_cons.1 hp with hp | hp
        · subst hp
          have := ih a (by simp)
          simp only [List.mem_cons, not_or]
          exact ⟨fun e => h e.symm, this⟩
        · exact ih p (List.mem_cons_of_mem _ hp)

theorem nameB_mem {s : List Int} (h : nameB s = true) : ∀ x ∈ s, x ≠ 10 ∧ x ≠ 32 := by
  cases s with
  | nil => cases h
  | cons y r =>
    simp only [nameB, Bool.and_eq_true, decide_eq_true_eq, List.all_eq_true] at h
    intro x hx
    have := h.2.2 x hx
    simp only [nameCh, Bool.or_eq_true, decide_eq_true_eq] at this
    omega

theorem refB_mem {s : List Int} (h : refB s = true) : ∀ x ∈ s, x ≠ 10 := by
  unfold refB at h
  simp only [Bool.or_eq_true, decide_eq_true_eq] at h
  rcases h with h | h
  · subst h; intro x hx; cases hx
  · exact fun x hx => (nameB_mem h x hx).1

theorem dotI_free {x : List Int} (h : (10 : Int) ∉ x) : (10 : Int) ∉ dotI x := by
  cases x with
  | nil => simp [dotI]
  | cons y r =>
    simp only [dotI]
    split
    · simp only [List.mem_cons, not_or] at h ⊢
      exact ⟨by decide, h⟩
    · exact h

theorem lines_free {m : Ml} (h : oneI m = 0) : ∀ x ∈ linesM m, (10 : Int) ∉ x := by
  obtain ⟨h1, h2, h3, h4, h5, h6, h7, _⟩ := oneI_text h
  have hi := itoaI_mem h4
  have hab : (10 : Int) ∉ m.2.2.2.2.2.1 := by
    intro hm
    have := List.all_eq_true.1 h6 _ hm
    simp [plainCh] at this
  intro x hx
  unfold linesM at hx
  simp only [List.mem_cons, List.mem_append] at hx
  rcases hx with hx | hx | hx | hx | hx | hx
  · subst hx
    unfold headX
    simp only [List.mem_append, List.mem_cons, not_or, List.not_mem_nil]
    refine ⟨by decide, fun hm => (nameB_mem h2 _ hm).1 rfl, by decide, fun hm => (nameB_mem h1 _ hm).1 rfl, by decide, fun hm => ?_⟩
    have := hi _ hm
    omega
  · split at hx
    · cases hx
    · rw [List.mem_singleton] at hx
      subst hx
      simp only [List.mem_append, List.mem_cons, not_or, List.not_mem_nil]
      exact ⟨by decide, fun hm => refB_mem h3 _ hm rfl⟩
  · split at hx
    · rw [List.mem_singleton] at hx
      subst hx
      decide
    · cases hx
  · subst hx
    simp only [List.mem_append, List.mem_cons, not_or, List.not_mem_nil]
    exact ⟨by decide, hab⟩
  · rw [List.mem_map] at hx
    obtain ⟨y, hy, rfl⟩ := hx
    exact dotI_free (split_free 10 _ y (List.dropLast_subset _ hy))
  · rcases hx with hx | hx
    · subst hx; decide
    · cases hx

theorem preB_app (w x : List Int) : preB w (w ++ x) = true := by
  unfold preB
  rw [decide_eq_true_eq, List.take_left']
  rfl

theorem drop_app (w x : List Int) : (w ++ x).drop w.length = x := List.drop_left' rfl

theorem txt_back (B : List (List Int)) : ∀ (L : List (List Int)) (acc : List Int), txtL (L.map dotI ++ [46] :: B) acc = some (acc ++ unl L, B) := by
  intro L
  induction L with
  | nil => intro acc; simp [txtL, unl]
  | cons x r ih =>
    intro acc
    have key : dotI x ≠ [46] ∧ badDot (dotI x) = false ∧ undot (dotI x) = x := by
      cases x with
      | nil => refine ⟨by simp [dotI], rfl, rfl⟩
      | cons y t =>
        by_cases h : y = 46
        · subst h
          have e : dotI ((46 : Int) :: t) = 46 :: 46 :: t := by simp [dotI]
          rw [e]
          refine ⟨by simp, ?_, ?_⟩
          · have : getI 0 ((46 : Int) :: t) (0 : Int) = 46 := rfl
            simp [badDot, this]
          · have : preB [46] ((46 : Int) :: 46 :: t) = true := by simp [preB]
            unfold undot
            rw [if_pos this]
            rfl
        · have e : dotI (y :: t) = y :: t := by simp [dotI, h]
          have hp : preB [46] (y :: t) = false := by simp [preB, h]
          rw [e]
          refine ⟨by simp [h], ?_, ?_⟩
          · unfold badDot; rw [hp]; rfl
          · unfold undot; rw [if_neg (by rw [hp]; decide)]
    simp only [List.map_cons, List.cons_append, txtL]
    rw [if_neg key.1, if_neg (by rw [key.2.1]; decide), key.2.2, ih]
    congr 2
    rw [unl_cons]
    simp

theorem aboutL_cons (fr : List Int) (tm : Int) (id rf : List Int) (gn : Bool) (x : List Int) (r : List (List Int)) : aboutL fr tm id rf gn (x :: r) = if preB [97, 98, 111, 117, 116, 32] x = true then
      match txtL r [] with
      | some (t, r2) => if oneI (fr, tm, id, rf, gn, x.drop 6, t) = 0 then some ((fr, tm, id, rf, gn, x.drop 6, t), r2) else none
      | none => none
    else none := rfl

theorem goneL_cons (fr : List Int) (tm : Int) (id rf x : List Int) (r : List (List Int)) : goneL fr tm id rf (x :: r) = if preB [103, 111, 110, 101] x = true then (if x.drop 4 = [] then aboutL fr tm id rf true r else none) else aboutL fr tm id rf false (x :: r) := rfl

theorem refL_cons (fr : List Int) (tm : Int) (id x : List Int) (r : List (List Int)) : refL fr tm id (x :: r) = if preB [114, 101, 102, 32] x = true then (if x.drop 4 = [] then none else goneL fr tm id (x.drop 4) r) else goneL fr tm id [] (x :: r) := rfl

theorem head_back {m : Ml} (h1 : nameB m.1 = true) (h2 : nameB m.2.2.1 = true) (h3 : 0 ≤ m.2.1) (h4 : m.2.1 ≤ 4294967295) : headOf (headX m) = some (m.1, m.2.1, m.2.2.1) := by
  have hp : preB [109, 97, 105, 108, 32] (headX m) = true := preB_app _ _
  have hd : (headX m).drop 5 = m.2.2.1 ++ 32 :: (m.1 ++ 32 :: itoaI m.2.1) := drop_app [109, 97, 105, 108, 32] _
  have hs : splitI 32 (m.2.2.1 ++ 32 :: (m.1 ++ 32 :: itoaI m.2.1)) = [m.2.2.1, m.1, itoaI m.2.1] := by
    rw [splitI_app, splitI_app, splitI_free 32 _ (fun h => (nameB_mem h2 _ h).2 rfl), splitI_free 32 _ (fun h => (nameB_mem h1 _ h).2 rfl), splitI_free 32 _ (fun h => by have := itoaI_mem h3 _ h; omega)]
    rfl
  unfold headOf
  rw [if_pos hp, hd, hs]
  have g2 : ([m.2.2.1, m.1, itoaI m.2.1] : List (List Int)).getD 2 [] = itoaI m.2.1 := rfl
  have g1 : ([m.2.2.1, m.1, itoaI m.2.1] : List (List Int)).getD 1 [] = m.1 := rfl
  have g0 : ([m.2.2.1, m.1, itoaI m.2.1] : List (List Int)).getD 0 [] = m.2.2.1 := rfl
  rw [g2, g1, g0, atoi_itoa h3 h4]
  rw [if_pos ⟨rfl, rfl, rfl⟩]

theorem mail_back {m : Ml} (h : oneI m = 0) (B : List (List Int)) : mailL (linesM m ++ B) = some (m, B) := by
  obtain ⟨h1, h2, h3, h4, h5, h6, h7, _⟩ := oneI_text h
  have htx : unl (splitI 10 m.2.2.2.2.2.2).dropLast = m.2.2.2.2.2.2 := by
    have e1 := lines_ends m.2.2.2.2.2.2 h7
    have e2 := mlines_flat m.2.2.2.2.2.2
    rw [e1] at e2
    exact e2
  have hab : ∀ gn, m.2.2.2.2.1 = gn → aboutL m.1 m.2.1 m.2.2.1 m.2.2.2.1 gn (([97, 98, 111, 117, 116, 32] ++ m.2.2.2.2.2.1) :: ((splitI 10 m.2.2.2.2.2.2).dropLast.map dotI ++ [46] :: B)) = some (m, B) := by
    intro gn hgn
    have hd : ([97, 98, 111, 117, 116, 32] ++ m.2.2.2.2.2.1 : List Int).drop 6 = m.2.2.2.2.2.1 := drop_app [97, 98, 111, 117, 116, 32] _
    rw [aboutL_cons, if_pos (preB_app _ _), txt_back]
    simp only [List.nil_append]
    rw [hd, htx, ← hgn]
    rw [if_pos (show oneI (m.1, m.2.1, m.2.2.1, m.2.2.2.1, m.2.2.2.2.1, m.2.2.2.2.2.1, m.2.2.2.2.2.2) = 0 from h)]
  have hgone : goneL m.1 m.2.1 m.2.2.1 m.2.2.2.1 ((if m.2.2.2.2.1 = true then [[103, 111, 110, 101]] else []) ++ (([97, 98, 111, 117, 116, 32] ++ m.2.2.2.2.2.1) :: ((splitI 10 m.2.2.2.2.2.2).dropLast.map dotI ++ [46] :: B))) = some (m, B) := by
    cases hg : m.2.2.2.2.1 with
    | true =>
      rw [if_pos rfl]
      simp only [List.cons_append, List.nil_append]
      rw [goneL_cons, if_pos (by decide), if_pos (by decide)]
      exact hab true hg
    | false =>
      rw [if_neg (by decide)]
      simp only [List.nil_append]
      rw [goneL_cons, if_neg (by simp [preB])]
      exact hab false hg
  unfold linesM
  simp only [List.cons_append, List.append_assoc, List.nil_append, mailL]
  rw [head_back h1 h2 h4 h5]
  simp only
  by_cases hr : m.2.2.2.1 = []
  · rw [if_pos hr]
    rw [hr] at hgone
    simp only [List.nil_append, List.cons_append, List.append_assoc] at hgone ⊢
    cases hg : m.2.2.2.2.1 with
    | true =>
      rw [hg, if_pos rfl] at hgone
      rw [if_pos rfl]
      simp only [List.cons_append, List.nil_append] at hgone ⊢
      rw [refL_cons, if_neg (by simp [preB])]
      exact hgone
    | false =>
      rw [hg, if_neg (by decide)] at hgone
      rw [if_neg (by decide)]
      simp only [List.nil_append] at hgone ⊢
      rw [refL_cons, if_neg (by simp [preB])]
      exact hgone
  · rw [if_neg hr]
    simp only [List.cons_append, List.nil_append]
    rw [refL_cons]
    have hd : ([114, 101, 102, 32] ++ m.2.2.2.1 : List Int).drop 4 = m.2.2.2.1 := drop_app [114, 101, 102, 32] _
    have hp : preB [114, 101, 102, 32] ([114, 101, 102, 32] ++ m.2.2.2.1) = true := preB_app _ _
    simp only [List.cons_append, List.nil_append] at hd hp
    rw [if_pos hp, hd, if_neg hr]
    simp only [List.cons_append, List.nil_append, List.append_assoc] at hgone
    exact hgone

theorem preB_eq {w x : List Int} (h : preB w x = true) : x = w ++ x.drop w.length := by
  unfold preB at h
  have h := of_decide_eq_true h
  conv => lhs; rw [← List.take_append_drop w.length x, h]

theorem split_unl : ∀ (L : List (List Int)), (∀ x ∈ L, (10 : Int) ∉ x) → splitI 10 (unl L) = L ++ [[]] := by
  intro L
  induction L with
  | nil => intro _; rfl
  | cons x r ih =>
    intro h
    rw [unl_cons, splitI_app, splitI_free 10 x (h x (by simp)), ih fun y hy => h y (List.mem_cons_of_mem _ hy)]
    rfl

theorem unl_ge : ∀ (ls : List (List Int)), ls.length ≤ (unl ls).length := by
  intro ls
  induction ls with
  | nil => simp [unl]
  | cons x r ih =>
    rw [unl_cons]
    simp only [List.length_cons, List.length_append]
    omega

theorem unl_inj : ∀ {A B : List (List Int)}, (∀ x ∈ A, (10 : Int) ∉ x) → (∀ x ∈ B, (10 : Int) ∉ x) → unl A = unl B → A = B := by
  intro A B hA hB h
  have h1 := split_unl A hA
  rw [h, split_unl B hB] at h1
  exact (List.append_cancel_right h1).symm

theorem txt_canon : ∀ (A : List (List Int)) (acc t : List Int) (R : List (List Int)), (∀ x ∈ A, (10 : Int) ∉ x) → txtL A acc = some (t, R) → ∃ L, A = L.map dotI ++ [46] :: R ∧ t = acc ++ unl L ∧ ∀ x ∈ L, (10 : Int) ∉ x := by
  intro A
  induction A with
  | nil => intro acc t R _ h; cases h
  | cons x r ih =>
    intro acc t R hf h
    simp only [txtL] at h
    split at h
    · rename_i h1
      simp only [Option.some.injEq, Prod.mk.injEq] at h
      obtain ⟨e1, e2⟩ := h
      exact ⟨[], by rw [h1, e2]; rfl, by rw [← e1]; simp [unl], fun _ h => by cases h⟩
    · split at h
      · cases h
      · rename_i h1 h2
        obtain ⟨L, e1, e2, e3⟩ := ih _ _ _ (fun y hy => hf y (List.mem_cons_of_mem _ hy)) h
        have hx := hf x (by simp)
        have key : dotI (undot x) = x ∧ (10 : Int) ∉ undot x := by
          unfold undot
          cases hp : preB [46] x with
          | false =>
            rw [if_neg (by decide)]
            refine ⟨?_, hx⟩
            cases x with
            | nil => rfl
            | cons y t => 
              simp only [dotI]
              rw [if_neg (fun e => by subst e; simp [preB] at hp)]
          | true =>
            rw [if_pos rfl]
            have e := preB_eq hp
            simp only [List.length_cons, List.length_nil, Nat.zero_add, List.cons_append, List.nil_append] at e
            unfold badDot at h2
            rw [hp, Bool.true_and] at h2
            generalize x.drop 1 = y at *
            subst e
            cases y with
            | nil => simp at h2
            | cons z t =>
              have hz : getI 0 (z :: t) (0 : Int) = z := rfl
              rw [hz] at h2
              have hz : z = 46 := by simpa using h2
              subst hz
              refine ⟨by simp [dotI], fun hm => hx (List.mem_cons_of_mem _ hm)⟩
        refine ⟨undot x :: L, ?_, ?_, fun y hy => ?_⟩
        · rw [List.map_cons, key.1, e1]; rfl
        · rw [e2, unl_cons]; simp
        · rcases List.mem_cons.1 hy with hy | hy
          · subst hy; exact key.2
          · exact e3 y hy

/-- the lines behind the references -/
def restM (m : Ml) : List (List Int) := ([97, 98, 111, 117, 116, 32] ++ m.2.2.2.2.2.1) :: ((splitI 10 m.2.2.2.2.2.2).dropLast.map dotI ++ [[46]])

theorem about_canon {fr : List Int} {tm : Int} {id rf : List Int} {gn : Bool} {A : List (List Int)} {m : Ml} {R : List (List Int)} (hf : ∀ x ∈ A, (10 : Int) ∉ x) (h : aboutL fr tm id rf gn A = some (m, R)) :
    A = restM m ++ R ∧ oneI m = 0 ∧ m.1 = fr ∧ m.2.1 = tm ∧ m.2.2.1 = id ∧ m.2.2.2.1 = rf ∧ m.2.2.2.2.1 = gn := by
  cases A with
  | nil => cases h
  | cons x r =>
    rw [aboutL_cons] at h
    split at h
    · rename_i hp
      cases ht : txtL r [] with
      | none => rw [ht] at h; cases h
      | some p =>
        obtain ⟨t, r2⟩ := p
        rw [ht] at h
        simp only at h
        split at h
        · rename_i h0
          simp only [Option.some.injEq, Prod.mk.injEq] at h
          obtain ⟨e1, e2⟩ := h
          subst e2
          obtain ⟨L, g1, g2, g3⟩ := txt_canon r [] t r2 (fun y hy => hf y (List.mem_cons_of_mem _ hy)) ht
          rw [List.nil_append] at g2
          have hL : (splitI 10 t).dropLast = L := by rw [g2, split_unl L g3, List.dropLast_concat]
          have hx := preB_eq hp
          simp only [List.length_cons, List.length_nil, Nat.zero_add, Nat.reduceAdd] at hx
          rw [← e1]
          refine ⟨?_, h0, rfl, rfl, rfl, rfl, rfl⟩
          unfold restM
          simp only
          rw [hL, ← hx, g1]
          simp
        · cases h
    · cases h

def goneM (m : Ml) : List (List Int) := (if m.2.2.2.2.1 = true then [[103, 111, 110, 101]] else []) ++ restM m

theorem gone_canon {fr : List Int} {tm : Int} {id rf : List Int} {A : List (List Int)} {m : Ml} {R : List (List Int)} (hf : ∀ x ∈ A, (10 : Int) ∉ x) (h : goneL fr tm id rf A = some (m, R)) :
    A = goneM m ++ R ∧ oneI m = 0 ∧ m.1 = fr ∧ m.2.1 = tm ∧ m.2.2.1 = id ∧ m.2.2.2.1 = rf := by
  cases A with
  | nil => cases h
  | cons x r =>
    rw [goneL_cons] at h
    split at h
    · rename_i hp
      split at h
      · rename_i hd
        obtain ⟨g1, g2, g3, g4, g5, g6, g7⟩ := about_canon (fun y hy => hf y (List.mem_cons_of_mem _ hy)) h
        have hx := preB_eq hp
        simp only [List.length_cons, List.length_nil, Nat.zero_add, Nat.reduceAdd] at hx
        rw [hd, List.append_nil] at hx
        refine ⟨?_, g2, g3, g4, g5, g6⟩
        unfold goneM
        rw [g7, if_pos rfl, hx, g1]
        rfl
      · cases h
    · obtain ⟨g1, g2, g3, g4, g5, g6, g7⟩ := about_canon hf h
      refine ⟨?_, g2, g3, g4, g5, g6⟩
      unfold goneM
      rw [g7, if_neg (by decide), g1]
      rfl

theorem ref_canon {fr : List Int} {tm : Int} {id : List Int} {A : List (List Int)} {m : Ml} {R : List (List Int)} (hf : ∀ x ∈ A, (10 : Int) ∉ x) (h : refL fr tm id A = some (m, R)) :
    A = ((if m.2.2.2.1 = [] then [] else [[114, 101, 102, 32] ++ m.2.2.2.1]) ++ goneM m) ++ R ∧ oneI m = 0 ∧ m.1 = fr ∧ m.2.1 = tm ∧ m.2.2.1 = id := by
  cases A with
  | nil => cases h
  | cons x r =>
    rw [refL_cons] at h
    split at h
    · rename_i hp
      split at h
      · cases h
      · rename_i hd
        obtain ⟨g1, g2, g3, g4, g5, g6⟩ := gone_canon (fun y hy => hf y (List.mem_cons_of_mem _ hy)) h
        have hx := preB_eq hp
        simp only [List.length_cons, List.length_nil, Nat.zero_add, Nat.reduceAdd] at hx
        refine ⟨?_, g2, g3, g4, g5⟩
        rw [g6, if_neg hd, ← hx, g1]
        rfl
    · obtain ⟨g1, g2, g3, g4, g5, g6⟩ := gone_canon hf h
      refine ⟨?_, g2, g3, g4, g5⟩
      rw [g6, if_pos rfl, g1]
      rfl

theorem three {ws : List (List Int)} (h : ws.length = 3) : ws = [ws.getD 0 [], ws.getD 1 [], ws.getD 2 []] := by
  match ws, h with
  | [a, b, c], _ => rfl

theorem head_canon {x : List Int} {fr : List Int} {tm : Int} {id : List Int} (h : headOf x = some (fr, tm, id)) : x = [109, 97, 105, 108, 32] ++ (id ++ 32 :: (fr ++ 32 :: itoaI tm)) := by
  unfold headOf at h
  split at h
  · rename_i hp
    split at h
    · rename_i hc
      obtain ⟨h1, h2, h3⟩ := hc
      have hx := preB_eq hp
      simp only [List.length_cons, List.length_nil, Nat.zero_add, Nat.reduceAdd] at hx
      have hj := join_split 32 (x.drop 5)
      simp only [Option.some.injEq, Prod.mk.injEq] at h
      obtain ⟨e1, e2, e3⟩ := h
      rw [e2] at h3
      rw [three h1, e1, e3, ← h3, joinI_cons, joinI_cons] at hj
      have hj : id ++ ([32] ++ (fr ++ ([32] ++ itoaI tm))) = x.drop 5 := by simpa [joinI, List.intercalate] using hj
      rw [hx, ← hj]
      rfl
    · cases h
  · cases h

theorem mail_canon {A : List (List Int)} {m : Ml} {R : List (List Int)} (hf : ∀ x ∈ A, (10 : Int) ∉ x) (h : mailL A = some (m, R)) : A = linesM m ++ R ∧ oneI m = 0 := by
  cases A with
  | nil => cases h
  | cons x r =>
    simp only [mailL] at h
    cases hh : headOf x with
    | none => rw [hh] at h; cases h
    | some p =>
      obtain ⟨fr, tm, id⟩ := p
      rw [hh] at h
      simp only at h
      obtain ⟨g1, g2, g3, g4, g5⟩ := ref_canon (fun y hy => hf y (List.mem_cons_of_mem _ hy)) h
      refine ⟨?_, g2⟩
      have hx := head_canon hh
      rw [← g3, ← g4, ← g5] at hx
      rw [hx, g1]
      unfold linesM goneM restM headX
      rfl

def mofA (fr : List Int) (tm : Int) (id rf : List Int) (gn ok : Bool) : List (List Int) → Option Ml
  | [] => none
  | x :: r => if ok = true ∧ preB [97, 98, 111, 117, 116, 32] x = true then some (fr, tm, id, rf, gn, x.drop 6, unl (r.dropLast.map undot)) else none

theorem mofA_cons (fr : List Int) (tm : Int) (id rf : List Int) (gn ok : Bool) (x : List Int) (r : List (List Int)) : mofA fr tm id rf gn ok (x :: r) = if ok = true ∧ preB [97, 98, 111, 117, 116, 32] x = true then some (fr, tm, id, rf, gn, x.drop 6, unl (r.dropLast.map undot)) else none := rfl

def mofG (fr : List Int) (tm : Int) (id rf : List Int) (ok : Bool) : List (List Int) → Option Ml
  | [] => none
  | x :: r => if x = [103, 111, 110, 101] then mofA fr tm id rf true ok r else mofA fr tm id rf false ok (x :: r)

def mofR (fr : List Int) (tm : Int) (id : List Int) (ok : Bool) : List (List Int) → Option Ml
  | [] => none
  | x :: r => if preB [114, 101, 102, 32] x = true then mofG fr tm id (x.drop 4) ok r else mofG fr tm id [] ok (x :: r)

def mofL : List (List Int) → Option Ml
  | [] => none
  | h :: r => if (splitI 32 h).length = 4 then mofR ((splitI 32 h).getD 2 []) (atoiI ((splitI 32 h).getD 3 [])).1 ((splitI 32 h).getD 1 []) (atoiI ((splitI 32 h).getD 3 [])).2 r else none

def Mof (o : Option Ml) (res : Option (Ml × Bool)) : Prop := ∃ (m : Ml) (ok : Bool), res = some (m, ok) ∧ match o with
  | some m' => m = m' ∧ ok = true
  | none => ok = false

theorem getI_at {L : List (List Int)} {i : Int} (n : Nat) (h : i = (n : Int)) : getI [] L i = L.getD n [] := by
  subst h
  exact getI_nat [] L n

theorem ofBody {R : Type} (N : Nat) (s : R) (K : (List Int × Int × List Int × List Int × Bool × List Int × List Int × List Int × Int × List Int × List Int × Bool × List Int × List Int × Unit) → R) (z1 : List Int) (z2 : Int) (z3 z4 : List Int) (z5 : Bool) (z6 z7 : List Int) (fr : List Int) (tm : Int) (id rf : List Int) (gn : Bool) (ab : List Int)
    (ls : List (List Int)) (c : Int) (hc : c = (ls.length : Int)) (hl : (unl ls).length ≤ 100000) (n : Nat) (hn : ls.length < n) :
    iter (wrackref2_mailOf.s0 N s K (c, ())) s n (ls, (0 : Int), z1, z2, z3, z4, z5, z6, z7, fr, tm, id, rf, gn, ab, [], ()) = K (z1, z2, z3, z4, z5, z6, z7, fr, tm, id, rf, gn, ab, unl (ls.map undot), ()) := by
  subst hc
  have hlen : ∀ i, (unl ((ls.take i).map undot)).length ≤ (unl (ls.take i)).length := by
    intro i
    generalize ls.take i = l
    induction l with
    | nil => simp [unl]
    | cons x r ih =>
      rw [List.map_cons, unl_cons, unl_cons]
      have := undot_len x
      simp only [List.length_append, List.length_cons]
      omega
  have hpart : ∀ i, (unl (ls.take i)).length ≤ (unl ls).length := by
    intro i
    conv => rhs; rw [← List.take_append_drop i ls, unl_app, List.length_append]
    omega
  refine iter_rule (fun v => ∃ i : Nat, v = (ls, (i : Int), z1, z2, z3, z4, z5, z6, z7, fr, tm, id, rf, gn, ab, unl ((ls.take i).map undot), ()) ∧ i ≤ ls.length) (fun v => ls.length - v.2.1.toNat) (fun o => o = K (z1, z2, z3, z4, z5, z6, z7, fr, tm, id, rf, gn, ab, unl (ls.map undot), ())) ?_ n _ ⟨0, rfl, Nat.zero_le _⟩ (by simp only; omega)
  rintro v again ⟨i, rfl, hi⟩ hag
  unfold wrackref2_mailOf.s0
  simp only [decide_eq_true_eq]
  have hll := unl_ge ls
  by_cases hlt : i < ls.length
  · rw [if_pos (by omega), gate_pos (inR_of (by omega) (by omega)), gate_pos (inR_of (by omega) (by omega)), getI_nat, bindO_of (trimPre_eq N _ [46])]
    have hun : (if preB [46] (ls.getD i []) = true then (ls.getD i []).drop [(46 : Int)].length else ls.getD i []) = undot (ls.getD i []) := rfl
    rw [hun]
    have hul := undot_len (ls.getD i [])
    have hs : ls.take (i + 1) = ls.take i ++ [ls.getD i []] := by
      rw [List.take_add_one, List.getElem?_eq_getElem hlt, List.getD_eq_getElem?_getD, List.getElem?_eq_getElem hlt]
      rfl
    have h1 := hlen i
    have h2 := hpart (i + 1)
    rw [hs, unl_app, List.length_append] at h2
    have h3 : (unl [ls.getD i []]).length = (ls.getD i []).length + 1 := by simp [unl]
    rw [g_dec (by simp only [List.length_cons, List.length_nil]; omega), g_dec (by simp only [List.length_append, List.length_cons, List.length_nil]; omega), w64 (by omega) (by omega)]
    refine hag _ ⟨i + 1, ?_, by omega⟩ (by simp only; omega)
    rw [hs, List.map_append, unl_app]
    simp [unl]
  · rw [if_neg (by omega)]
    have : i = ls.length := by omega
    subst this
    rw [List.take_length]

theorem maxI_one (x : Int) : maxI 1 x = if x > 1 then x else 1 := rfl

theorem tailOf (N : Nat) (hN : 1048577 < N) (fr : List Int) (tm : Int) (id rf : List Int) (gn ok : Bool) (L : List (List Int)) (k : Nat) (hL : (unl L).length ≤ 100000) (hk : k ≤ L.length)
    (K : (List Int × Int × List Int × List Int × Bool × List Int × List Int × List Int × Int × List Int × List Int × Bool × List Int × List Int × Unit) → Option (Ml × Bool))
    (hK : ∀ z1 z2 z3 z4 z5 z6 z7 b1 b2 b3 b4 b5 b6 b7, K (z1, z2, z3, z4, z5, z6, z7, b1, b2, b3, b4, b5, b6, b7, ()) = some ((b1, (b2, (b3, (b4, (b5, (b6, b7)))))), true))
    {a1 a2 a3 a4 a5 a6 a7 a8 a9 a10 a11 a12 a13 a14 a15 : Int} (h1 : a1 = (L.length : Int) - k) (h2 : a2 = (L.length : Int) - k) (h3 : a3 = k) (h4 : a4 = k) (h5 : a5 = (L.length : Int) - k) (h6 : a6 = k) (h7 : a7 = k) (h8 : a8 = k) (h9 : a9 = (L.length : Int) - k) (h10 : a10 = (L.length : Int) - k - 1)
    (h11 : a11 = maxI 1 (IntKind.wrap .i64 a10) - 1) (h12 : a12 = (k : Int) + 1) (h13 : a13 = (k : Int) + maxI 1 (IntKind.wrap .i64 a10)) (h14 : a14 = k) (h15 : a15 = k) :
    Mof (mofA fr tm id rf gn ok (L.drop k)) (bindO (if (!ok) = true then some true else if (decide (a1 = 0)) = true then some true else gate (inR (0 : Int) a2) (gate (inR a3 (L.length : Int)) (bindO (strings_HasPrefix N (getI [] L a4) [97, 98, 111, 117, 116, 32]) (fun r78 => some (!r78)) none) none) none)
      (fun c80 => if c80 = true then some ((fr, (tm, (id, (rf, (gn, ([], [])))))), false)
        else gate (inR (0 : Int) a5) (gate (inR a6 (L.length : Int)) (gate (bounds ((getI [] L a7).length : Int) (6 : Int) ((getI [] L a8).length : Int)) (gate (bounds a9 (1 : Int) (maxI (1 : Int) (IntKind.wrap .i64 a10)))
          (iter (wrackref2_mailOf.s0 N none K (a11, ())) none N (cut L a12 a13, (0 : Int), [], (0 : Int), [], [], false, [], [], fr, tm, id, rf, gn, cut (getI [] L a14) (6 : Int) ((getI [] L a15).length : Int), [], ())) none) none) none) none) none) := by
  have hll := unl_ge L
  cases ok with
  | false =>
    have hm : mofA fr tm id rf gn false (L.drop k) = none := by
      cases L.drop k with
      | nil => rfl
      | cons x r => simp [mofA]
    rw [hm]
    simp only [Bool.not_false, if_true, bindO]
    exact ⟨_, _, rfl, rfl⟩
  | true =>
    simp only [Bool.not_true, Bool.false_eq_true, if_false]
    by_cases hend : k = L.length
    · have hm : mofA fr tm id rf gn true (L.drop k) = none := by rw [hend, List.drop_length]; rfl
      rw [hm, if_pos (by rw [decide_eq_true_eq]; omega)]
      simp only [bindO, if_true]
      exact ⟨_, _, rfl, rfl⟩
    · have hlt : k < L.length := by omega
      have hdrop : L.drop k = L.getD k [] :: L.drop (k + 1) := by
        rw [List.drop_eq_getElem_cons hlt, List.getD_eq_getElem?_getD, List.getElem?_eq_getElem hlt]
        rfl
      rw [hdrop, if_neg (by rw [decide_eq_true_eq]; omega), gate_pos (inR_of (by omega) (by omega)), gate_pos (inR_of (by omega) (by omega))]
      simp only [getI_at k h4, getI_at k h7, getI_at k h8, getI_at k h14, getI_at k h15]
      rw [hasPrefix_eq]
      simp only [bindO]
      rw [mofA_cons]
      cases hp : preB [97, 98, 111, 117, 116, 32] (L.getD k []) with
      | false =>
        rw [if_neg (fun h => by cases h.2)]
        simp only [Bool.not_false, if_true]
        exact ⟨_, _, rfl, rfl⟩
      | true =>
        have hpl := preB_len hp
        simp only [List.length_cons, List.length_nil, Nat.zero_add, Nat.reduceAdd] at hpl
        rw [if_pos ⟨rfl, rfl⟩]
        simp only [Bool.not_true, Bool.false_eq_true, if_false]
        have hw : IntKind.wrap .i64 a10 = (L.length : Int) - k - 1 := by
          rw [h10]
          exact w64 (by omega) (by omega)
        have hmx : maxI 1 (IntKind.wrap .i64 a10) = ((max 1 (L.length - k - 1) : Nat) : Int) := by
          rw [hw, maxI_one]
          split <;> omega
        rw [gate_pos (inR_of (by omega) (by omega)), gate_pos (inR_of (by omega) (by omega)), gate_pos (bounds_of (by omega) (by omega) (by omega)), gate_pos (bounds_of (by omega) (by omega) (by omega))]
        have hcut : cut L a12 a13 = (L.drop (k + 1)).dropLast := by
          rw [cutn L (k + 1) (k + max 1 (L.length - k - 1)) (by omega) (by omega) (by omega), List.dropLast_eq_take, List.length_drop]
          congr 1
          omega
        have hab : cut (L.getD k []) (6 : Int) ((L.getD k []).length : Int) = (L.getD k []).drop 6 := cut_end _ 6 hpl
        rw [hcut, hab]
        have hbl : (unl (L.drop (k + 1)).dropLast).length ≤ 100000 := by
          have e1 : (unl (L.drop (k + 1)).dropLast).length ≤ (unl (L.drop (k + 1))).length := by
            rw [List.dropLast_eq_take]
            conv => rhs; rw [← List.take_append_drop ((L.drop (k + 1)).length - 1) (L.drop (k + 1)), unl_app, List.length_append]
            omega
          have e2 : (unl (L.drop (k + 1))).length ≤ (unl L).length := by
            conv => rhs; rw [← List.take_append_drop (k + 1) L, unl_app, List.length_append]
            omega
          omega
        have hdl : (L.drop (k + 1)).dropLast.length = L.length - (k + 1) - 1 := by rw [List.length_dropLast, List.length_drop]
        rw [ofBody N none K _ _ _ _ _ _ _ fr tm id rf gn _ _ a11 (by rw [hdl]; omega) hbl N (by rw [hdl]; omega), hK]
        exact ⟨_, _, rfl, rfl, rfl⟩

theorem trimSuf (N : Nat) (a : List Int) (ha : a.length ≤ 100000) : strings_TrimSuffix N (a ++ [46, 10]) [46, 10] = some a := by
  have hh : stringslite_HasSuffix N (a ++ [46, 10]) [46, 10] = some true := by
    unfold stringslite_HasSuffix
    simp only [decide_eq_true_eq, List.length_append, List.length_cons, List.length_nil]
    rw [if_pos (by omega)]
    have ew : IntKind.wrap .i64 (((a.length + (0 + 1 + 1) : Nat) : Int) - ((0 + 1 + 1 : Nat) : Int)) = (a.length : Int) := by rw [w64 (by omega) (by omega)]; omega
    simp only [ew]
    rw [gate_pos (bounds_of (by omega) (by omega) (by omega))]
    have e := cut_end (a ++ [46, 10]) a.length (by simp)
    simp only [List.length_append, List.length_cons, List.length_nil] at e
    rw [show ((a.length + (0 + 1 + 1) : Nat) : Int) = ((a.length + (0 + 1 + 1) : Nat) : Int) from rfl, e, List.drop_left' rfl]
    rfl
  have key : stringslite_TrimSuffix N (a ++ [46, 10]) [46, 10] = some a := by
    unfold stringslite_TrimSuffix
    rw [bindO_of hh]
    simp only [if_true, List.length_append, List.length_cons, List.length_nil]
    have ew : IntKind.wrap .i64 (((a.length + (0 + 1 + 1) : Nat) : Int) - ((0 + 1 + 1 : Nat) : Int)) = (a.length : Int) := by rw [w64 (by omega) (by omega)]; omega
    rw [ew, gate_pos (bounds_of (by omega) (by omega) (by omega)), mcut_take, List.take_left' rfl]
  unfold strings_TrimSuffix
  rw [bindO_of key]

theorem ofSplit (N : Nat) (c : Int) (x : List Int) (hx : x.length ≤ 100000) : strings_Split N x [c] = some (splitI c x) := by
  unfold strings_Split
  have : genSplitF x [c] 0 (-1) = some (splitI c x) := by
    simp only [genSplitF]
    rw [if_pos ⟨trivial, trivial, by omega⟩]
  rw [bindO_of this]

theorem mailOf_eq (N : Nat) (B : List (List Int)) (hf : ∀ x ∈ B, (10 : Int) ∉ x) (hl : (unl B).length ≤ 65536) (hN : 1048577 < N) : Mof (mofL (B ++ [[]])) (wrackref2_mailOf N (unl B ++ [46, 10])) := by
  unfold wrackref2_mailOf
  rw [bindO_of (trimSuf N (unl B) (by omega)), bindO_of (ofSplit N 10 (unl B) (by omega)), split_unl B hf]
  obtain ⟨L, hLe⟩ : ∃ L, B ++ [[]] = L := ⟨_, rfl⟩
  have hL : (unl L).length ≤ 100000 := by
    rw [← hLe, unl_app, List.length_append]
    have : (unl ([[]] : List (List Int))).length = 1 := rfl
    omega
  have hne : L ≠ [] := by rw [← hLe]; simp
  rw [hLe]
  clear hLe hf hl
  have hll := unl_ge L
  cases L with
  | nil => exact absurd rfl hne
  | cons h r =>
    have hhl : h.length ≤ 100000 := by
      rw [unl_cons, List.length_append] at hL
      omega
    have g0 : getI [] (h :: r) (0 : Int) = h := rfl
    rw [gate_pos (inR_of (by omega) (by simp only [List.length_cons]; omega)), gate_pos (inR_of (by omega) (by simp only [List.length_cons]; omega)), g0, bindO_of (ofSplit N 32 h hhl)]
    simp only [mofL]
    obtain ⟨z1, z2⟩ := splitI_len 32 h
    generalize splitI 32 h = ws at *
    by_cases h4 : ws.length = 4
    · have w3 : getI [] ws (3 : Int) = ws.getD 3 [] := getI_nat [] ws 3
      have w2 : getI [] ws (2 : Int) = ws.getD 2 [] := getI_nat [] ws 2
      have w1 : getI [] ws (1 : Int) = ws.getD 1 [] := getI_nat [] ws 1
      simp only [w3, w2, w1]
      have hl3 : (ws.getD 3 []).length ≤ 100000 := by
        rw [List.getD_eq_getElem?_getD, List.getElem?_eq_getElem (by omega)]
        have := z2 _ (List.getElem_mem (show 3 < ws.length by omega))
        simp only [Option.getD_some]
        omega
      rw [if_pos h4, if_neg (by rw [decide_eq_true (show (ws.length : Int) = 4 by omega)]; decide)]
      rw [gate_pos (inR_of (by omega) (by omega)), gate_pos (inR_of (by omega) (by omega)), g_dec (by omega), gate_pos (inR_of (by omega) (by omega)), gate_pos (inR_of (by omega) (by omega)), gate_pos (inR_of (by omega) (by omega)), gate_pos (inR_of (by omega) (by omega)), gate_pos (bounds_of (by omega) (by simp only [List.length_cons]; omega) (by omega))]
      generalize ws.getD 2 [] = fr
      generalize ws.getD 1 [] = id
      generalize atoiI (ws.getD 3 []) = an
      obtain ⟨tm, ok⟩ := an
      simp only
      cases r with
      | nil =>
        rw [show (if (decide (((([h] : List (List Int)).length : Int) - (1 : Int)) > (0 : Int))) = true then gate (inR (0 : Int) ((([h] : List (List Int)).length : Int) - (1 : Int))) (gate (inR ((1 : Int) + (0 : Int)) (([h] : List (List Int)).length : Int)) (bindO (strings_HasPrefix N (getI [] [h] ((1 : Int) + (0 : Int))) [114, 101, 102, 32]) (fun r46 => some r46) none) none) none else some false : Option Bool) = some false from rfl]
        rw [b_some, if_neg (by decide)]
        rw [show (if (decide (((([h] : List (List Int)).length : Int) - (1 : Int)) > (0 : Int))) = true then gate (inR (0 : Int) ((([h] : List (List Int)).length : Int) - (1 : Int))) (gate (inR ((1 : Int) + (0 : Int)) (([h] : List (List Int)).length : Int)) (some (decide ((getI [] [h] ((1 : Int) + (0 : Int))) = [103, 111, 110, 101]))) none) none else some false : Option Bool) = some false from rfl]
        rw [b_some, if_neg (by decide)]
        exact tailOf N hN fr tm id [] false ok [h] 1 hL (by simp) _ (fun _ _ _ _ _ _ _ _ _ _ _ _ _ _ => rfl) (by simp) (by simp) (by simp) (by simp) (by simp) (by simp) (by simp) (by simp) (by simp) (by simp) (by omega) (by omega) (by omega) (by simp) (by simp)
      | cons x r1 =>
        have gx : getI [] (h :: x :: r1) ((1 : Int) + 0) = x := rfl
        have hc1 : (if (decide ((((h :: x :: r1).length : Int) - (1 : Int)) > (0 : Int))) = true then gate (inR (0 : Int) (((h :: x :: r1).length : Int) - (1 : Int))) (gate (inR ((1 : Int) + (0 : Int)) ((h :: x :: r1).length : Int)) (bindO (strings_HasPrefix N (getI [] (h :: x :: r1) ((1 : Int) + (0 : Int))) [114, 101, 102, 32]) (fun r46 => some r46) none) none) none else some false : Option Bool) = some (preB [114, 101, 102, 32] x) := by
          rw [if_pos (by rw [decide_eq_true_eq]; simp only [List.length_cons]; omega), gate_pos (inR_of (by omega) (by simp only [List.length_cons]; omega)), gate_pos (inR_of (by omega) (by simp only [List.length_cons]; omega)), gx, hasPrefix_eq]
          rfl
        rw [hc1, b_some]
        simp only [mofR]
        cases hp : preB [114, 101, 102, 32] x with
        | true =>
          have hpl := preB_len hp
          simp only [List.length_cons, List.length_nil, Nat.zero_add, Nat.reduceAdd] at hpl
          rw [if_pos rfl, if_pos rfl]
          have hxd : cut x (4 : Int) (x.length : Int) = x.drop 4 := cut_end x 4 hpl
          simp only [gx, hxd]
          rw [gate_pos (inR_of (by omega) (by simp only [List.length_cons]; omega)), gate_pos (inR_of (by omega) (by simp only [List.length_cons]; omega)), gate_pos (bounds_of (by omega) (by omega) (by omega)), gate_pos (bounds_of (by omega) (by simp only [List.length_cons]; omega) (by omega))]
          obtain ⟨c, hc, hmg⟩ : ∃ c : Bool, (if (decide (((1 : Int) + (((h :: x :: r1).length : Int) - (1 : Int))) - ((1 : Int) + (1 : Int)) > (0 : Int))) = true then gate (inR (0 : Int) (((1 : Int) + (((h :: x :: r1).length : Int) - (1 : Int))) - ((1 : Int) + (1 : Int)))) (gate (inR (((1 : Int) + (1 : Int)) + (0 : Int)) ((h :: x :: r1).length : Int)) (some (decide ((getI [] (h :: x :: r1) (((1 : Int) + (1 : Int)) + (0 : Int))) = [103, 111, 110, 101]))) none) none else some false : Option Bool) = some c ∧
              mofG fr tm id (x.drop 4) ok r1 = if c = true then mofA fr tm id (x.drop 4) true ok ((h :: x :: r1).drop 3) else mofA fr tm id (x.drop 4) false ok ((h :: x :: r1).drop 2) := by
            cases r1 with
            | nil => exact ⟨false, rfl, rfl⟩
            | cons y r2 =>
              have gy : getI [] (h :: x :: y :: r2) (((1 : Int) + 1) + 0) = y := rfl
              refine ⟨decide (y = [103, 111, 110, 101]), ?_, ?_⟩
              · rw [if_pos (by rw [decide_eq_true_eq]; simp only [List.length_cons]; omega), gate_pos (inR_of (by omega) (by simp only [List.length_cons]; omega)), gate_pos (inR_of (by omega) (by simp only [List.length_cons]; omega)), gy]
              · simp only [mofG, decide_eq_true_eq]
                rfl
          rw [hc, b_some, hmg]
          cases c with
          | true =>
            have h3 : 3 ≤ (h :: x :: r1).length := by
              rcases Nat.lt_or_ge (h :: x :: r1).length 3 with h3 | h3
              · exfalso
                have : r1 = [] := by
                  cases r1 with
                  | nil => rfl
                  | cons y r2 => simp only [List.length_cons] at h3; omega
                subst this
                cases hc
              · exact h3
            rw [if_pos rfl, if_pos rfl, gate_pos (bounds_of (by omega) (by omega) (by omega))]
            exact tailOf N hN fr tm id (x.drop 4) true ok (h :: x :: r1) 3 hL h3 _ (fun _ _ _ _ _ _ _ _ _ _ _ _ _ _ => rfl) (by omega) (by omega) (by omega) (by omega) (by omega) (by omega) (by omega) (by omega) (by omega) (by omega) (by omega) (by omega) (by omega) (by omega) (by omega)
          | false =>
            rw [if_neg (by decide), if_neg (by decide)]
            exact tailOf N hN fr tm id (x.drop 4) false ok (h :: x :: r1) 2 hL (by simp only [List.length_cons]; omega) _ (fun _ _ _ _ _ _ _ _ _ _ _ _ _ _ => rfl) (by omega) (by omega) (by omega) (by omega) (by omega) (by omega) (by omega) (by omega) (by omega) (by omega) (by omega) (by omega) (by omega) (by omega) (by omega)
        | false =>
          rw [if_neg (by decide), if_neg (by decide)]
          have hc : (if (decide ((((h :: x :: r1).length : Int) - (1 : Int)) > (0 : Int))) = true then gate (inR (0 : Int) (((h :: x :: r1).length : Int) - (1 : Int))) (gate (inR ((1 : Int) + (0 : Int)) ((h :: x :: r1).length : Int)) (some (decide (getI [] (h :: x :: r1) ((1 : Int) + (0 : Int)) = [103, 111, 110, 101]))) none) none else some false : Option Bool) = some (decide (x = [103, 111, 110, 101])) := by
            rw [if_pos (by rw [decide_eq_true_eq]; simp only [List.length_cons]; omega), gate_pos (inR_of (by omega) (by simp only [List.length_cons]; omega)), gate_pos (inR_of (by omega) (by simp only [List.length_cons]; omega)), gx]
          rw [hc, b_some]
          simp only [mofG]
          by_cases hg : x = [103, 111, 110, 101]
          · rw [if_pos hg, decide_eq_true hg, if_pos rfl, gate_pos (bounds_of (by omega) (by simp only [List.length_cons]; omega) (by omega))]
            have := tailOf N hN fr tm id [] true ok (h :: x :: r1) 2 hL (by simp only [List.length_cons]; omega)
            exact this _ (fun _ _ _ _ _ _ _ _ _ _ _ _ _ _ => rfl) (by omega) (by omega) (by omega) (by omega) (by omega) (by omega) (by omega) (by omega) (by omega) (by omega) (by omega) (by omega) (by omega) (by omega) (by omega)
          · rw [if_neg hg, decide_eq_false hg, if_neg (by decide)]
            have := tailOf N hN fr tm id [] false ok (h :: x :: r1) 1 hL (by simp only [List.length_cons]; omega)
            exact this _ (fun _ _ _ _ _ _ _ _ _ _ _ _ _ _ => rfl) (by omega) (by omega) (by omega) (by omega) (by omega) (by omega) (by omega) (by omega) (by omega) (by omega) (by omega) (by omega) (by omega) (by omega) (by omega)
    · rw [if_neg h4, if_pos (by rw [decide_eq_false (show ¬ (ws.length : Int) = 4 by omega)]; rfl)]
      exact ⟨_, _, rfl, rfl⟩

theorem nDig_lt : ∀ (k u : Nat), u < 10 ^ (k + 1) → Go.Lib.nDigits u ≤ k + 1 := by
  intro k
  induction k with
  | zero =>
    intro u h
    rw [Go.Lib.nDigits_small (by simpa using h)]
    omega
  | succ k ih =>
    intro u h
    by_cases h2 : u < 10
    · rw [Go.Lib.nDigits_small h2]; omega
    · rw [Go.Lib.nDigits_big h2]
      have := ih (u / 10) (by rw [Nat.pow_succ] at h; omega)
      omega

theorem itoaI_all {n : Int} (h1 : -9223372036854775808 ≤ n) (h2 : n ≤ 9223372036854775807) : (itoaI n).length ≤ 30 := by
  unfold itoaI Go.Lib.itoa
  rw [List.length_map]
  have p : ∀ u : Nat, u ≤ 9223372036854775808 → (Go.Lib.decDigits u).length ≤ 20 := by
    intro u hu
    rw [Go.Lib.decDigits_length]
    exact nDig_lt 19 u (by omega)
  split
  · rw [List.length_cons]
    have := p n.natAbs (by omega)
    omega
  · have := p n.toNat (by omega)
    omega

theorem atoiI_bd (s : List Int) : -9223372036854775808 ≤ (atoiI s).1 ∧ (atoiI s).1 ≤ 9223372036854775807 := by
  unfold atoiI
  split
  · rename_i v h
    have := Go.Lib.atoiAll_bounds h
    simp only
    omega
  · simp
  · have := Go.Lib.atoiSat_bounds (toB s)
    simp only
    omega

theorem endsB_unl (L : List (List Int)) : endsB (unl L) = true := by
  rcases List.eq_nil_or_concat L with h | ⟨A, x, h⟩
  · subst h; rfl
  · rw [List.concat_eq_append] at h
    subst h
    unfold endsB
    rw [unl_app]
    have : unl [x] = x ++ [10] := by simp [unl]
    rw [this, ← List.append_assoc, List.getLast?_concat]
    simp

/-- small parts, lines that end -/
structure Tot (m : Ml) : Prop where
  small : Small m
  ends : endsB m.2.2.2.2.2.2 = true
  tm : (itoaI m.2.1).length ≤ 30

theorem Tot.fits {m : Ml} (h : Tot m) : Fits m := ⟨h.small.1, h.small.2.1, h.small.2.2.1, h.small.2.2.2.1, h.small.2.2.2.2, by have := h.tm; omega⟩

theorem unl_undot (L : List (List Int)) : (unl (L.map undot)).length ≤ (unl L).length := by
  induction L with
  | nil => simp [unl]
  | cons x r ih =>
    rw [List.map_cons, unl_cons, unl_cons]
    have := undot_len x
    simp only [List.length_append, List.length_cons]
    omega

theorem unl_dropLast (L : List (List Int)) : (unl L.dropLast).length ≤ (unl L).length := by
  rw [List.dropLast_eq_take]
  conv => rhs; rw [← List.take_append_drop (L.length - 1) L, unl_app, List.length_append]
  omega

theorem mofA_tot {fr : List Int} {tm : Int} {id rf : List Int} {gn ok : Bool} {L : List (List Int)} {m : Ml} (h : mofA fr tm id rf gn ok L = some m) (h1 : fr.length ≤ 100000) (h2 : id.length ≤ 100000) (h3 : rf.length ≤ 100000) (h4 : (itoaI tm).length ≤ 30) (hl : (unl L).length ≤ 100000) : Tot m := by
  cases L with
  | nil => cases h
  | cons x r =>
    rw [mofA_cons] at h
    split at h
    · simp only [Option.some.injEq] at h
      rw [unl_cons, List.length_append, List.length_cons] at hl
      have a := unl_undot r.dropLast
      have b := unl_dropLast r
      subst h
      refine ⟨⟨by simp only; omega, by simp only; omega, by simp only; omega, by simp only; rw [List.length_drop]; omega, by simp only; omega⟩, endsB_unl _, h4⟩
    · cases h

theorem mofG_tot {fr : List Int} {tm : Int} {id rf : List Int} {ok : Bool} {L : List (List Int)} {m : Ml} (h : mofG fr tm id rf ok L = some m) (h1 : fr.length ≤ 100000) (h2 : id.length ≤ 100000) (h3 : rf.length ≤ 100000) (h4 : (itoaI tm).length ≤ 30) (hl : (unl L).length ≤ 100000) : Tot m := by
  cases L with
  | nil => cases h
  | cons x r =>
    simp only [mofG] at h
    split at h
    · exact mofA_tot h h1 h2 h3 h4 (by rw [unl_cons, List.length_append, List.length_cons] at hl; omega)
    · exact mofA_tot h h1 h2 h3 h4 hl

theorem mofR_tot {fr : List Int} {tm : Int} {id : List Int} {ok : Bool} {L : List (List Int)} {m : Ml} (h : mofR fr tm id ok L = some m) (h1 : fr.length ≤ 100000) (h2 : id.length ≤ 100000) (h4 : (itoaI tm).length ≤ 30) (hl : (unl L).length ≤ 100000) : Tot m := by
  cases L with
  | nil => cases h
  | cons x r =>
    have hx : x.length ≤ 100000 := by rw [unl_cons, List.length_append, List.length_cons] at hl; omega
    simp only [mofR] at h
    split at h
    · exact mofG_tot h h1 h2 (by rw [List.length_drop]; omega) h4 (by rw [unl_cons, List.length_append, List.length_cons] at hl; omega)
    · exact mofG_tot h h1 h2 (by simp) h4 hl

theorem mofL_tot {L : List (List Int)} {m : Ml} (h : mofL L = some m) (hl : (unl L).length ≤ 100000) : Tot m := by
  cases L with
  | nil => cases h
  | cons x r =>
    have hx : x.length ≤ 100000 ∧ (unl r).length ≤ 100000 := by rw [unl_cons, List.length_append, List.length_cons] at hl; omega
    simp only [mofL] at h
    split at h
    · rename_i h4
      obtain ⟨z1, z2⟩ := splitI_len 32 x
      have hw : ∀ i, i < 4 → ((splitI 32 x).getD i []).length ≤ 100000 := by
        intro i hi
        rw [List.getD_eq_getElem?_getD, List.getElem?_eq_getElem (by omega)]
        have := z2 _ (List.getElem_mem (show i < (splitI 32 x).length by omega))
        simp only [Option.getD_some]
        omega
      obtain ⟨b1, b2⟩ := atoiI_bd ((splitI 32 x).getD 3 [])
      exact mofR_tot h (hw 2 (by omega)) (hw 1 (by omega)) (itoaI_all b1 b2) hx.2
    · cases h

def mlinesB (m : Ml) : List (List Int) :=
  headX m :: ((if m.2.2.2.1 = [] then [] else [[114, 101, 102, 32] ++ m.2.2.2.1]) ++ ((if m.2.2.2.2.1 = true then [[103, 111, 110, 101]] else []) ++
    (([97, 98, 111, 117, 116, 32] ++ m.2.2.2.2.2.1) :: (splitI 10 m.2.2.2.2.2.2).dropLast.map dotI)))

theorem mlinesB_eq (m : Ml) : linesM m = mlinesB m ++ [[46]] := by
  unfold linesM mlinesB
  simp

theorem undot_dot (x : List Int) : undot (dotI x) = x := by
  cases x with
  | nil => rfl
  | cons y t =>
    by_cases h : y = 46
    · subst h
      have e : dotI ((46 : Int) :: t) = 46 :: 46 :: t := by simp [dotI]
      rw [e]
      have : preB [46] ((46 : Int) :: 46 :: t) = true := by simp [preB]
      unfold undot
      rw [if_pos this]
      rfl
    · have e : dotI (y :: t) = y :: t := by simp [dotI, h]
      have hp : preB [46] (y :: t) = false := by simp [preB, h]
      rw [e]
      unfold undot
      rw [if_neg (by rw [hp]; decide)]

theorem of_back {m : Ml} (h : oneI m = 0) : mofL (mlinesB m ++ [[]]) = some m := by
  obtain ⟨h1, h2, h3, h4, h5, h6, h7, _⟩ := oneI_text h
  have hs : splitI 32 (headX m) = [[109, 97, 105, 108], m.2.2.1, m.1, itoaI m.2.1] := by
    have e : headX m = [109, 97, 105, 108] ++ 32 :: (m.2.2.1 ++ 32 :: (m.1 ++ 32 :: itoaI m.2.1)) := rfl
    rw [e, splitI_app, splitI_app, splitI_app, splitI_free 32 [109, 97, 105, 108] (by decide), splitI_free 32 _ (fun h => (nameB_mem h2 _ h).2 rfl), splitI_free 32 _ (fun h => (nameB_mem h1 _ h).2 rfl), splitI_free 32 _ (fun h => by have := itoaI_mem h4 _ h; omega)]
    rfl
  have htx : unl (((splitI 10 m.2.2.2.2.2.2).dropLast.map dotI).map undot) = m.2.2.2.2.2.2 := by
    rw [List.map_map, show undot ∘ dotI = id from funext undot_dot, List.map_id]
    have e1 := lines_ends m.2.2.2.2.2.2 h7
    have e2 := mlines_flat m.2.2.2.2.2.2
    rw [e1] at e2
    exact e2
  have habout : ∀ gn, m.2.2.2.2.1 = gn → mofA m.1 m.2.1 m.2.2.1 m.2.2.2.1 gn true (([97, 98, 111, 117, 116, 32] ++ m.2.2.2.2.2.1) :: ((splitI 10 m.2.2.2.2.2.2).dropLast.map dotI ++ [[]])) = some m := by
    intro gn hgn
    have hd : ([97, 98, 111, 117, 116, 32] ++ m.2.2.2.2.2.1 : List Int).drop 6 = m.2.2.2.2.2.1 := drop_app [97, 98, 111, 117, 116, 32] _
    rw [mofA_cons, if_pos ⟨rfl, preB_app _ _⟩, hd, List.dropLast_concat, htx, ← hgn]
  have hgone : mofG m.1 m.2.1 m.2.2.1 m.2.2.2.1 true ((if m.2.2.2.2.1 = true then [[103, 111, 110, 101]] else []) ++ (([97, 98, 111, 117, 116, 32] ++ m.2.2.2.2.2.1) :: ((splitI 10 m.2.2.2.2.2.2).dropLast.map dotI ++ [[]]))) = some m := by
    cases hg : m.2.2.2.2.1 with
    | true =>
      rw [if_pos rfl]
      simp only [List.cons_append, List.nil_append, mofG, if_true]
      exact habout true hg
    | false =>
      rw [if_neg (by decide)]
      simp only [List.nil_append]
      unfold mofG
      simp only
      rw [if_neg (by simp)]
      exact habout false hg
  unfold mlinesB
  simp only [List.cons_append, List.append_assoc, mofL]
  rw [hs]
  have g3 : ([[109, 97, 105, 108], m.2.2.1, m.1, itoaI m.2.1] : List (List Int)).getD 3 [] = itoaI m.2.1 := rfl
  have g2 : ([[109, 97, 105, 108], m.2.2.1, m.1, itoaI m.2.1] : List (List Int)).getD 2 [] = m.1 := rfl
  have g1 : ([[109, 97, 105, 108], m.2.2.1, m.1, itoaI m.2.1] : List (List Int)).getD 1 [] = m.2.2.1 := rfl
  rw [if_pos (by simp), g3, g2, g1, atoi_itoa h4 h5]
  simp only
  by_cases hr : m.2.2.2.1 = []
  · rw [if_pos hr]
    rw [hr] at hgone
    simp only [List.nil_append, List.cons_append] at hgone ⊢
    cases hg : m.2.2.2.2.1 with
    | true =>
      rw [hg, if_pos rfl] at hgone
      rw [if_pos rfl]
      simp only [List.cons_append, List.nil_append] at hgone ⊢
      unfold mofR
      simp only
      rw [if_neg (by simp [preB])]
      exact hgone
    | false =>
      rw [hg, if_neg (by decide)] at hgone
      rw [if_neg (by decide)]
      simp only [List.nil_append] at hgone ⊢
      unfold mofR
      simp only
      rw [if_neg (by simp [preB])]
      exact hgone
  · rw [if_neg hr]
    have hd : ([114, 101, 102, 32] ++ m.2.2.2.1 : List Int).drop 4 = m.2.2.2.1 := drop_app [114, 101, 102, 32] _
    have hp : preB [114, 101, 102, 32] ([114, 101, 102, 32] ++ m.2.2.2.1) = true := preB_app _ _
    simp only [List.cons_append, List.nil_append] at hd hp hgone ⊢
    unfold mofR
    simp only
    rw [if_pos hp, hd]
    exact hgone

theorem idx_skip : ∀ (x Y : List Int), (10 : Int) ∉ x → idxsI [10, 46, 10] (x ++ Y) = if idxsI [10, 46, 10] Y = -1 then -1 else idxsI [10, 46, 10] Y + x.length := by
  intro x
  induction x with
  | nil => intro Y _; simp only [List.nil_append, List.length_nil]; split <;> omega
  | cons y t ih =>
    intro Y h
    simp only [List.mem_cons, not_or] at h
    simp only [List.cons_append, idxsI, List.length_cons]
    have hp : ([10, 46, 10] : List Int).isPrefixOf (y :: (t ++ Y)) = false := by
      simp only [List.isPrefixOf, Bool.and_eq_false_imp, beq_iff_eq]
      intro e
      exact absurd e h.1
    rw [if_neg (by rw [hp]; decide), ih Y h.2]
    by_cases h1 : idxsI [10, 46, 10] Y = -1
    · rw [if_pos h1, if_pos h1, if_pos rfl]
    · rw [if_neg h1, if_neg h1]
      have hge := idxsI_ge Y
      rw [if_neg (by omega)]
      omega
where
  idxsI_ge : ∀ (Y : List Int), -1 ≤ idxsI [10, 46, 10] Y := by
    intro Y
    induction Y with
    | nil => decide
    | cons y t ih =>
      simp only [idxsI]
      split
      · omega
      · split
        · omega
        · omega

theorem idx_line {x : List Int} (h : (10 : Int) ∉ x) (Y : List Int) : idxsI [10, 46, 10] (10 :: (x ++ 10 :: Y)) = if x = [46] then 0 else if idxsI [10, 46, 10] (10 :: Y) = -1 then -1 else idxsI [10, 46, 10] (10 :: Y) + x.length + 1 := by
  by_cases hx : x = [46]
  · rw [if_pos hx, hx]
    simp [idxsI]
  · rw [if_neg hx]
    have hp : ([10, 46, 10] : List Int).isPrefixOf (10 :: (x ++ 10 :: Y)) = false := by
      match x, h, hx with
      | [], _, _ => rfl
      | [a], h, hx =>
        simp only [List.mem_cons, List.not_mem_nil, or_false] at h
        have : a ≠ 46 := fun e => hx (by rw [e])
        simp [List.isPrefixOf, Ne.symm this]
      | a :: b :: r, h, _ =>
        simp only [List.mem_cons, not_or] at h
        simp [List.isPrefixOf, h.2.1]
    have e : idxsI [10, 46, 10] (10 :: (x ++ 10 :: Y)) = if idxsI [10, 46, 10] (x ++ 10 :: Y) = -1 then -1 else idxsI [10, 46, 10] (x ++ 10 :: Y) + 1 := by
      conv => lhs; unfold idxsI
      rw [if_neg (by rw [hp]; decide)]
    rw [e, idx_skip x (10 :: Y) h]
    have hge := idx_skip.idxsI_ge (10 :: Y)
    by_cases h1 : idxsI [10, 46, 10] (10 :: Y) = -1
    · rw [if_pos h1, if_pos h1, if_pos rfl]
    · rw [if_neg h1, if_neg h1, if_neg (by omega)]

theorem idx_tail {t : List Int} (h : (10 : Int) ∉ t) : idxsI [10, 46, 10] (10 :: t) = -1 := by
  have e1 : idxsI [10, 46, 10] t = -1 := by
    have := idx_skip t [] h
    rw [List.append_nil] at this
    rw [this]
    rfl
  have hp : ([10, 46, 10] : List Int).isPrefixOf (10 :: t) = false := by
    match t, h with
    | [], _ => rfl
    | [a], _ => cases h : ((46 : Int) == a) <;> simp [List.isPrefixOf, h]
    | a :: b :: r, h =>
      simp only [List.mem_cons, not_or] at h
      simp [List.isPrefixOf, h.2.1]
  unfold idxsI
  rw [if_neg (by rw [hp]; decide), if_pos e1]

/-- the first line that is a dot -/
theorem idx_lines : ∀ (A : List (List Int)) (tail : List Int), (∀ x ∈ A, (10 : Int) ∉ x) → (10 : Int) ∉ tail →
    (([46] ∉ A ∧ idxsI [10, 46, 10] (10 :: (unl A ++ tail)) = -1) ∨ ∃ B C, A = B ++ [46] :: C ∧ [46] ∉ B ∧ idxsI [10, 46, 10] (10 :: (unl A ++ tail)) = (unl B).length) := by
  intro A
  induction A with
  | nil =>
    intro tail _ ht
    refine Or.inl ⟨by simp, ?_⟩
    simpa [unl] using idx_tail ht
  | cons x r ih =>
    intro tail hf ht
    have e : unl (x :: r) ++ tail = x ++ 10 :: (unl r ++ tail) := by rw [unl_cons]; simp
    rw [e, idx_line (hf x (by simp))]
    by_cases hx : x = [46]
    · rw [if_pos hx]
      exact Or.inr ⟨[], r, by rw [hx]; rfl, by simp, rfl⟩
    · rw [if_neg hx]
      rcases ih tail (fun y hy => hf y (List.mem_cons_of_mem _ hy)) ht with ⟨h1, h2⟩ | ⟨B, C, h1, h2, h3⟩
      · rw [if_pos h2]
        exact Or.inl ⟨by simp only [List.mem_cons, not_or]; exact ⟨fun e => hx e.symm, h1⟩, rfl⟩
      · rw [h3, if_neg (by omega)]
        refine Or.inr ⟨x :: B, C, by rw [h1]; rfl, by simp only [List.mem_cons, not_or]; exact ⟨fun e => hx e.symm, h2⟩, ?_⟩
        rw [unl_cons, List.length_append, List.length_cons]
        omega

theorem dotI_ne (x : List Int) : dotI x ≠ [46] := by
  cases x with
  | nil => simp [dotI]
  | cons y t =>
    simp only [dotI]
    split
    · simp
    · rename_i h
      simp [h]

theorem mlinesB_dot (m : Ml) : [46] ∉ mlinesB m := by
  unfold mlinesB headX
  intro h
  simp only [List.mem_cons, List.mem_append] at h
  rcases h with h | h | h | h | h
  · simp at h
  · split at h
    · cases h
    · simp at h
  · split at h
    · simp at h
    · cases h
  · simp at h
  · rw [List.mem_map] at h
    obtain ⟨y, _, hy⟩ := h
    exact dotI_ne y hy

/-- where a list is cut at its first dot -/
theorem first_dot : ∀ {B C B' C' : List (List Int)}, B ++ [46] :: C = B' ++ [46] :: C' → [46] ∉ B → [46] ∉ B' → B = B' ∧ C = C' := by
  intro B
  induction B with
  | nil =>
    intro C B' C' h _ hB'
    cases B' with
    | nil => simpa using h
    | cons y r =>
      simp only [List.nil_append, List.cons_append, List.cons.injEq] at h
      exact absurd (by rw [h.1]; simp) hB'
  | cons x r ih =>
    intro C B' C' h hB hB'
    cases B' with
    | nil =>
      simp only [List.nil_append, List.cons_append, List.cons.injEq] at h
      exact absurd (by rw [← h.1]; simp) hB
    | cons y t =>
      simp only [List.cons_append, List.cons.injEq] at h
      obtain ⟨e1, e2⟩ := ih h.2 (fun hm => hB (List.mem_cons_of_mem _ hm)) (fun hm => hB' (List.mem_cons_of_mem _ hm))
      exact ⟨by rw [h.1, e1], e2⟩

theorem mbox_take_le (l : List Ml) (k : Nat) : (mboxI (l.take k)).length ≤ (mboxI l).length := by
  conv => rhs; rw [← List.take_append_drop k l]
  unfold mboxI
  rw [List.flatMap_append, List.length_append]
  omega

theorem mbox_succ (l : List Ml) {i : Nat} (h : i < l.length) : mboxI (l.take (i + 1)) = mboxI (l.take i) ++ mailI (l.getD i ml0) := by
  unfold mboxI
  rw [List.take_add_one, List.flatMap_append, List.getElem?_eq_getElem h, List.getD_eq_getElem?_getD, List.getElem?_eq_getElem h]
  simp

theorem print_ok (N : Nat) (l : List Ml) (hc : mail_Check N l = some 0) (hl : l.length ≤ 60) (hf : ∀ e ∈ l, Fits e) (hN : 1048577 < N) : mail_Print N l = some (if 65536 < (mboxI l).length then ([], 2) else (mboxI l, 0)) := by
  unfold mail_Print
  rw [bindO_of hc, if_neg (by decide)]
  refine iter_rule (fun v => ∃ i : Nat, v = ((i : Int), mboxI (l.take i), ()) ∧ i ≤ l.length ∧ (mboxI (l.take i)).length ≤ 65536) (fun v => l.length - v.1.toNat)
    (fun o => o = some (if 65536 < (mboxI l).length then ([], 2) else (mboxI l, 0))) ?_ N _ ⟨0, rfl, Nat.zero_le _, by simp [mboxI]⟩ (by simp only; omega)
  rintro v again ⟨i, rfl, hi, hle⟩ hag
  by_cases hlt : i < l.length
  · rw [print_round N _ _ _ _ l i _ hlt hl (hf _ (ml_mem hlt)) hle, ← mbox_succ l hlt]
    by_cases hbig : 65536 < (mboxI (l.take (i + 1))).length
    · rw [if_pos hbig, if_pos (Nat.lt_of_lt_of_le hbig (mbox_take_le l _))]
    · rw [if_neg hbig]
      exact hag _ ⟨i + 1, rfl, by omega, by omega⟩ (by simp only; omega)
  · have : i = l.length := by omega
    subst this
    rw [List.take_length] at hle ⊢
    unfold mail_Print.s0
    simp only [decide_eq_true_eq]
    rw [if_neg (by omega), if_neg (by omega)]

theorem fact_print (N : Nat) (hN : 1048577 < N) : mail_Print N [([97], ((5 : Int), ([98], ([], (false, ([], []))))))] = some ([109, 97, 105, 108, 32, 98, 32, 97, 32, 53, 10, 97, 98, 111, 117, 116, 32, 10, 46, 10], 0) := by
  have hs : ∀ e ∈ ([([97], ((5 : Int), ([98], ([], (false, ([], []))))))] : List Ml), Small e := by
    intro e he
    simp only [List.mem_singleton] at he
    subst he
    unfold Small
    decide
  obtain ⟨r, h1, h2⟩ := mcheck_res N [([97], ((5 : Int), ([98], ([], (false, ([], []))))))] hs hN
  have hr : r = 0 := resM_unique h2 (Or.inr ⟨by decide, Or.inr ⟨fun j hj => by
    have : j = 0 := by simp at hj; omega
    subst this
    decide, rfl⟩⟩)
  subst hr
  have hf : ∀ e ∈ ([([97], ((5 : Int), ([98], ([], (false, ([], []))))))] : List Ml), Fits e := fun e he => fits_of ((resM_zero h2).2 e he) (hs e he)
  have hp := print_ok N _ h1 (by decide) hf hN
  have em : mboxI [([97], ((5 : Int), ([98], ([], (false, ([], []))))))] = [109, 97, 105, 108, 32, 98, 32, 97, 32, 53, 10, 97, 98, 111, 117, 116, 32, 10, 46, 10] := by decide +kernel
  rw [hp, em]
  rfl

theorem dotPre_eq (N : Nat) (p : List Int) : strings_HasPrefix N p [46] = some (decide (p.take 1 = [46])) := by
  have key : stringslite_HasPrefix N p [46] = some (decide (p.take 1 = [46])) := by
    unfold stringslite_HasPrefix
    simp only [decide_eq_true_eq, List.length_cons, List.length_nil]
    cases p with
    | nil => rfl
    | cons x r =>
      rw [if_pos (by simp only [List.length_cons]; omega), gate_pos (bounds_of (by omega) (by omega) (by simp only [List.length_cons]; omega))]
      have e : cut (x :: r) (0 : Int) ((0 + 1 : Nat) : Int) = (x :: r).take 1 := cut_nat (x :: r) 0 1 (by omega)
      simp only [e, bindO]
  unfold strings_HasPrefix
  rw [bindO_of key]

theorem dotI_pre (p : List Int) : dotI p = if p.take 1 = [46] then [46] ++ p else p := by
  cases p with
  | nil => rfl
  | cons x r =>
    simp only [dotI, List.take_succ_cons, List.take_zero, List.cons.injEq, and_true]
    rfl

theorem textLoop {R : Type} (N : Nat) (s : R) (k0 : (List (List Int) × Unit) → R) (b lines : List (List Int)) (hb : b.length ≤ 100) (hl : lines.length ≤ 1048576) (hp : ∀ p ∈ lines, p.length ≤ 1048576) (n : Nat) (hn : lines.length < n) :
    iter (wrackref2_MailText.s0 N s k0 ((lines.length : Int), ())) s n (b, lines, (0 : Int), ()) = k0 (b ++ lines.map dotI, ()) := by
  refine iter_rule (fun v => ∃ i : Nat, v = (b ++ (lines.take i).map dotI, lines, (i : Int), ()) ∧ i ≤ lines.length) (fun v => lines.length - v.2.2.1.toNat)
    (fun o => o = k0 (b ++ lines.map dotI, ())) ?_ n _ ⟨0, by simp, Nat.zero_le _⟩ (by simp only; omega)
  rintro v again ⟨i, rfl, hi⟩ hag
  unfold wrackref2_MailText.s0
  simp only [decide_eq_true_eq]
  by_cases hlt : i < lines.length
  · have hm : lines.getD i [] ∈ lines := by
      rw [List.getD_eq_getElem?_getD, List.getElem?_eq_getElem hlt]
      exact List.getElem_mem hlt
    have hpm := hp _ hm
    rw [if_pos (by omega), gate_pos (inR_of (by omega) (by omega)), gate_pos (inR_of (by omega) (by omega)), getI_nat, bindO_of (dotPre_eq N _)]
    have hd := dotI_pre (lines.getD i [])
    have hs : lines.take (i + 1) = lines.take i ++ [lines.getD i []] := by
      rw [List.take_add_one, List.getElem?_eq_getElem hlt, List.getD_eq_getElem?_getD, List.getElem?_eq_getElem hlt]
      rfl
    generalize lines.getD i [] = p at *
    have e1 : (if decide (p.take 1 = [46]) = true then gate (decide ([46].length + p.length ≤ 140737488355328)) (some (b ++ (lines.take i).map dotI, [46] ++ p, lines, ())) none else some (b ++ (lines.take i).map dotI, p, lines, ()) : Option (List (List Int) × List Int × List (List Int) × Unit)) = some (b ++ (lines.take i).map dotI, dotI p, lines, ()) := by
      by_cases h : p.take 1 = [46]
      · rw [if_pos h] at hd
        rw [if_pos (by simpa using h), g_dec (by simp only [List.length_cons, List.length_nil]; omega), hd]
      · rw [if_neg h] at hd
        rw [if_neg (by simpa using h), hd]
    rw [bindO_of e1]
    simp only
    have hlen : (b ++ (lines.take i).map dotI).length = b.length + i := by simp; omega
    rw [g_room (by simp only [hlen, List.length_cons, List.length_nil]; omega) (by simp only [hlen, List.length_cons, List.length_nil]; omega), w64 (by omega) (by omega)]
    refine hag _ ⟨i + 1, ?_, by omega⟩ (by simp only; omega)
    rw [hs, List.map_append, List.append_assoc]
    rfl
  · rw [if_neg (by omega)]
    have : i = lines.length := by omega
    subst this
    rw [List.take_length]

theorem dropLast_cut (ls : List (List Int)) (h : ls ≠ []) (hl : ls.length ≤ 1048577) : cut ls (0 : Int) (ls.dropLast.length : Int) = ls.dropLast ∧ IntKind.wrap .i64 ((ls.length : Int) - 1) = (ls.dropLast.length : Int) := by
  have hpos := List.length_pos_iff.2 h
  have e : IntKind.wrap .i64 ((ls.length : Int) - 1) = ((ls.length - 1 : Nat) : Int) := by rw [w64 (by omega) (by omega)]; omega
  rw [e, List.length_dropLast, mcut_take]
  exact ⟨(List.dropLast_eq_take).symm, rfl⟩

theorem text_eq (N : Nat) (m : Ml) (hf : Fits m) (he : endsB m.2.2.2.2.2.2 = true) (hN : 1048577 < N) : wrackref2_MailText N m = some (mailI m) := by
  have hml := mailI_len hf
  obtain ⟨fr, tm, id, rf, gn, ab, tx⟩ := m
  obtain ⟨h1, h2, h3, h4, h5, h6⟩ := hf
  simp only at h1 h2 h3 h4 h5 h6 he ⊢
  unfold wrackref2_MailText
  simp only
  rw [bindO_of (show itoaF tm = some (itoaI tm) from rfl)]
  have ej : joinI [32] [[109, 97, 105, 108], id, fr, itoaI tm] = [109, 97, 105, 108, 32] ++ id ++ [32] ++ fr ++ [32] ++ itoaI tm := by
    rw [joinI_cons, joinI_cons, joinI_cons]
    simp [joinI, List.intercalate]
  have hj : joinF [[109, 97, 105, 108], id, fr, itoaI tm] [32] = some ([109, 97, 105, 108, 32] ++ id ++ [32] ++ fr ++ [32] ++ itoaI tm) := by
    unfold joinF
    rw [ej, if_pos ⟨by simp only [List.length_append, List.length_cons, List.length_nil]; omega, by simp⟩]
  rw [bindO_of hj]
  generalize hhd : [109, 97, 105, 108, 32] ++ id ++ [32] ++ fr ++ [32] ++ itoaI tm = hd
  have e1 : (if (!decide (rf = [])) = true then gate (decide ([114, 101, 102, 32].length + rf.length ≤ 140737488355328)) (gate (roomFor ([hd].length + [([114, 101, 102, 32] ++ rf)].length) 16) (some ([hd] ++ [([114, 101, 102, 32] ++ rf)], fr, tm, id, rf, gn, ab, tx, ())) none) none
      else some ([hd], fr, tm, id, rf, gn, ab, tx, ()) : Option (List (List Int) × List Int × Int × List Int × List Int × Bool × List Int × List Int × Unit)) = some ([hd] ++ (if rf = [] then [] else [[114, 101, 102, 32] ++ rf]), fr, tm, id, rf, gn, ab, tx, ()) := by
    by_cases hr : rf = []
    · simp only [hr, decide_true, Bool.not_true, Bool.false_eq_true, if_false, if_true, List.append_nil]
    · rw [if_pos (by rw [decide_eq_false hr]; rfl), if_neg hr, g_dec (by simp only [List.length_cons, List.length_nil]; omega), g_room (by simp) (by simp)]
  rw [bindO_of e1]
  have hrl : (if rf = [] then [] else [[114, 101, 102, 32] ++ rf] : List (List Int)).length ≤ 1 := by split <;> simp
  have hrf : ((if rf = [] then [] else [[114, 101, 102, 32] ++ rf] : List (List Int)).map (· ++ [10])).flatten = refI (fr, tm, id, rf, gn, ab, tx) := by unfold refI; split <;> simp
  generalize (if rf = [] then [] else [[114, 101, 102, 32] ++ rf] : List (List Int)) = rs at *
  simp only
  have e2 : (if gn = true then gate (roomFor (([hd] ++ rs).length + [[103, 111, 110, 101]].length) 16) (some (([hd] ++ rs) ++ [[103, 111, 110, 101]], fr, tm, id, rf, gn, ab, tx, ())) none
      else some ([hd] ++ rs, fr, tm, id, rf, gn, ab, tx, ()) : Option (List (List Int) × List Int × Int × List Int × List Int × Bool × List Int × List Int × Unit)) = some (([hd] ++ rs) ++ (if gn = true then [[103, 111, 110, 101]] else []), fr, tm, id, rf, gn, ab, tx, ()) := by
    cases gn with
    | true => rw [if_pos rfl, if_pos rfl, g_room (by simp only [List.length_append, List.length_cons, List.length_nil]; omega) (by simp only [List.length_append, List.length_cons, List.length_nil]; omega)]
    | false => simp only [Bool.false_eq_true, if_false, List.append_nil]
  rw [bindO_of e2]
  have hgl : (if gn = true then [[103, 111, 110, 101]] else [] : List (List Int)).length ≤ 1 := by split <;> simp
  have hgf : ((if gn = true then [[103, 111, 110, 101]] else [] : List (List Int)).map (· ++ [10])).flatten = goneI (fr, tm, id, rf, gn, ab, tx) := by unfold goneI; split <;> simp
  generalize (if gn = true then [[103, 111, 110, 101]] else [] : List (List Int)) = gs at *
  simp only
  rw [g_dec (by simp only [List.length_cons, List.length_nil]; omega), g_room (by simp only [List.length_append, List.length_cons, List.length_nil]; omega) (by simp only [List.length_append, List.length_cons, List.length_nil]; omega)]
  have hsp : strings_Split N tx [10] = some (splitI 10 tx) := by
    unfold strings_Split
    have : genSplitF tx [10] 0 (-1) = some (splitI 10 tx) := by
      simp only [genSplitF]
      rw [if_pos ⟨trivial, trivial, by omega⟩]
    rw [bindO_of this]
  rw [bindO_of hsp]
  obtain ⟨z1, z2⟩ := splitI_len 10 tx
  have hne := splitI_ne 10 tx
  obtain ⟨c1, c2⟩ := dropLast_cut (splitI 10 tx) hne (by omega)
  have hde := dots_ends tx he
  have hlines : ∀ p ∈ (splitI 10 tx).dropLast, p.length ≤ 1048576 := fun p hp => Nat.le_trans (z2 p (List.dropLast_subset _ hp)) h5
  have hll : (splitI 10 tx).dropLast.length ≤ 1048576 := by rw [List.length_dropLast]; omega
  simp only [c2, c1]
  rw [gate_pos (bounds_of (by omega) (by omega) (by rw [List.length_dropLast]; omega))]
  rw [show ((splitI 10 tx).dropLast.length : Int) - 0 = ((splitI 10 tx).dropLast.length : Int) by omega]
  generalize (splitI 10 tx).dropLast = lines at *
  rw [textLoop N none _ _ lines (by simp only [List.length_append, List.length_cons, List.length_nil]; omega) hll hlines N (by omega)]
  simp only
  have hfin : joinI [10] (([hd] ++ rs ++ gs ++ [[97, 98, 111, 117, 116, 32] ++ ab] ++ lines.map dotI) ++ [[46], []]) = mailI (fr, tm, id, rf, gn, ab, tx) := by
    rw [show (([hd] ++ rs ++ gs ++ [[97, 98, 111, 117, 116, 32] ++ ab] ++ lines.map dotI) ++ [[46], []] : List (List Int)) = ([hd] ++ rs ++ gs ++ [[97, 98, 111, 117, 116, 32] ++ ab] ++ lines.map dotI ++ [[46]]) ++ [[]] by simp, join_end]
    simp only [List.map_append, List.flatten_append, hrf, hgf]
    unfold mailI topI headI aboutI bodyI
    rw [hde]
    simp only [← hhd, List.map_cons, List.map_nil, List.flatten_cons, List.flatten_nil, List.append_nil, List.append_assoc]
    rfl
  have hln : ([hd] ++ rs ++ gs ++ [[97, 98, 111, 117, 116, 32] ++ ab] ++ lines.map dotI).length ≤ 1048580 := by simp only [List.length_append, List.length_cons, List.length_nil, List.length_map]; omega
  rw [g_room (by simp only [List.length_append, List.length_cons, List.length_nil, List.length_map] at hln ⊢; omega) (by simp only [List.length_append, List.length_cons, List.length_nil, List.length_map] at hln ⊢; omega)]
  have hjf : joinF (([hd] ++ rs ++ gs ++ [[97, 98, 111, 117, 116, 32] ++ ab] ++ lines.map dotI) ++ [[46], []]) [10] = some (mailI (fr, tm, id, rf, gn, ab, tx)) := by
    unfold joinF
    rw [hfin, if_pos ⟨by omega, by rw [List.length_append]; simp only [List.length_cons, List.length_nil]; omega⟩]
  rw [bindO_of hjf]

theorem mails_true (N : Nat) (hN : 1048577 < N) : wracklaw2_mails N = some true := by
  unfold wracklaw2_mails
  simp only
  rw [bindO_of (fact_print N hN)]
  rfl

theorem rsameMails (N : Nat) (a : List Ml) (ha : a.length ≤ 1048576) (hN : 1048577 < N) : slices_Equal_mail_Mail N a a = some true := by
  unfold slices_Equal_mail_Mail
  simp only [decide_true, Bool.not_true, Bool.false_eq_true, if_false]
  refine iter_rule (fun v => ∃ i : Nat, v = ((i : Int), ()) ∧ i ≤ a.length) (fun v => a.length - v.1.toNat) (fun o => o = some true) ?_ N _ ⟨0, rfl, Nat.zero_le _⟩ (by simp only; omega)
  rintro v again ⟨i, rfl, hi⟩ hag
  unfold slices_Equal_mail_Mail.s0
  simp only [decide_eq_true_eq]
  by_cases hlt : i < a.length
  · rw [if_pos (by omega), gate_pos (inR_of (by omega) (by omega)), gate_pos (inR_of (by omega) (by omega)), w64 (by omega) (by omega)]
    rw [if_neg (by simp)]
    exact hag _ ⟨i + 1, rfl, by omega⟩ (by simp only; omega)
  · rw [if_neg (by omega)]

theorem pieces : ∀ s : List Int, ∃ A tail, s = unl A ++ tail ∧ (∀ x ∈ A, (10 : Int) ∉ x) ∧ (10 : Int) ∉ tail := by
  intro s
  induction s with
  | nil => exact ⟨[], [], rfl, fun _ h => (by cases h), by simp⟩
  | cons x r ih =>
    obtain ⟨A, tail, h1, h2, h3⟩ := ih
    by_cases hx : x = 10
    · refine ⟨[] :: A, tail, by rw [hx, unl_cons, h1]; rfl, fun y hy => ?_, h3⟩
      rcases List.mem_cons.1 hy with hy | hy
      · subst hy; simp
      · exact h2 y hy
    · cases A with
      | nil =>
        refine ⟨[], x :: tail, by rw [h1]; rfl, fun _ h => (by cases h), ?_⟩
        simp only [List.mem_cons, not_or]
        exact ⟨fun e => hx e.symm, h3⟩
      | cons a A =>
        refine ⟨(x :: a) :: A, tail, by rw [h1, unl_cons, unl_cons]; rfl, fun y hy => ?_, h3⟩
        rcases List.mem_cons.1 hy with hy | hy
        · subst hy
          simp only [List.mem_cons, not_or]
          exact ⟨fun e => hx e.symm, h2 a (by simp)⟩
        · exact h2 y (List.mem_cons_of_mem _ hy)

theorem clone_eq (N : Nat) (l : List Ml) (hl : l.length ≤ 1000) : slices_Clone_mail_Mail N l = some l := by
  unfold slices_Clone_mail_Mail
  simp only [List.length_nil, Nat.zero_add, List.nil_append]
  rw [g_room (by omega) (by omega)]

/-- both checks of the messages so far and a further one -/
theorem check_both (N : Nat) (l : List Ml) (hs : ∀ e ∈ l, Small e) (hN : 1048577 < N) : ∃ r, mail_Check N l = some r ∧ wrackref2_MailErr N l = some r ∧ ResM l r := by
  obtain ⟨r, h1, h2⟩ := mcheck_res N l hs hN
  obtain ⟨q, h3, h4⟩ := merr_res N l hs hN
  have := resM_unique h2 h4
  subst this
  exact ⟨r, h1, h3, h2⟩

theorem both (N : Nat) (s tail : List Int) (hs : s.length ≤ 65536) (hN : 1048577 < N) (K0 : (List Ml × Unit) → Option (List Ml × Int × Int)) (KR : (List Ml × Int × Int × Unit) → Option (List Ml × Int × Int)) (KB : (List Ml × Int × Unit) → Option (List Ml × Int)) :
    ∀ (k : Nat) (A : List (List Int)) (out : List Ml) (p n1 n2 : Nat), A.length ≤ k → At s tail A p → out.length ≤ 60 → (∀ e ∈ out, Small e) → A.length < n1 → A.length < n2 →
      ∃ (out' : List Ml) (p' : Nat), iter (mail_Read.s0 N none K0 KR (s, ())) none n1 (out, s, (p : Int), ()) = (if p' = s.length then K0 (out', ()) else KR (out', (p' : Int), (3 : Int), ())) ∧
        iter (wrackref2_MailBox.s0 N none KB (s, ())) none n2 (out, (p : Int), ()) = KB (out', (p' : Int), ()) ∧ out'.length ≤ 60 ∧ p' ≤ s.length := by
  intro k
  induction k with
  | zero =>
    intro A out p n1 n2 hA h ho hsm hn1 hn2
    exact base A out p n1 n2 (List.eq_nil_of_length_eq_zero (by omega)) h ho hn1 hn2
  | succ k ih =>
    intro A out p n1 n2 hA h ho hsm hn1 hn2
    by_cases hA0 : A = []
    · exact base A out p n1 n2 hA0 h ho hn1 hn2
    obtain ⟨n1, rfl⟩ := Nat.exists_eq_succ_of_ne_zero (show n1 ≠ 0 by omega)
    obtain ⟨n2, rfl⟩ := Nat.exists_eq_succ_of_ne_zero (show n2 ≠ 0 by omega)
    have hle := h.le
    have hge := unl_ge A
    have hlen := congrArg List.length h.eq
    rw [List.length_drop, List.length_append] at hlen
    have hApos := List.length_pos_iff.2 hA0
    rw [iter_eq, iter_eq]
    have ih' := fun (R : List (List Int)) (out' : List Ml) (q : Nat) (hR : R.length < A.length) (hq : At s tail R q) (ho' : out'.length ≤ 60) (hs' : ∀ e ∈ out', Small e) => ih R out' q n1 n2 (by omega) hq ho' hs' (by omega) (by omega)
    generalize iter (mail_Read.s0 N none K0 KR (s, ())) none n1 = ag1 at *
    generalize iter (wrackref2_MailBox.s0 N none KB (s, ())) none n2 = ag2 at *
    obtain ⟨m, ok, q, hr, hres⟩ := mail_step N s tail hs hN A p h (by omega)
    unfold mail_Read.s0 wrackref2_MailBox.s0
    simp only [decide_eq_true_eq]
    rw [if_pos (by omega), bindO_of hr]
    simp only
    -- the reference's piece
    have hdrop : cut s (p : Int) (s.length : Int) = unl A ++ tail := by rw [cut_end s p hle, h.eq]
    rw [gate_pos (bounds_of (by omega) (by omega) (by omega))]
    simp only [hdrop]
    rw [g_dec (by simp only [List.length_append, List.length_cons, List.length_nil]; omega)]
    have hidx : indexG ([10] ++ (unl A ++ tail)) [10, 46, 10] = some (idxsI [10, 46, 10] (10 :: (unl A ++ tail))) := by
      unfold indexG
      simp only [List.cons_append, List.nil_append]
      rw [if_pos (by simp only [List.length_cons, List.length_append]; omega)]
    rw [bindO_of hidx]
    -- what is cut out: the lines as far as the first dot
    have htext : ∀ (B C : List (List Int)), A = B ++ [46] :: C → cut s (p : Int) (IntKind.wrap .i64 (IntKind.wrap .i64 ((p : Int) + ((unl B).length : Int)) + (2 : Int))) = unl B ++ [46, 10] ∧ IntKind.wrap .i64 (IntKind.wrap .i64 ((p : Int) + ((unl B).length : Int)) + (2 : Int)) = ((p + ((unl B).length + 2) : Nat) : Int) ∧ p + ((unl B).length + 2) ≤ s.length := by
      intro B C hBC
      have e1 : unl A ++ tail = (unl B ++ [46, 10]) ++ (unl C ++ tail) := by rw [hBC, unl_app, unl_cons]; simp
      have e2 := congrArg List.length e1
      simp only [List.length_append, List.length_cons, List.length_nil] at e2
      have ew : IntKind.wrap .i64 (IntKind.wrap .i64 ((p : Int) + ((unl B).length : Int)) + (2 : Int)) = ((p + ((unl B).length + 2) : Nat) : Int) := by
        rw [w64 (x := (p : Int) + ((unl B).length : Int)) (by omega) (by omega), w64 (by omega) (by omega)]
        omega
      refine ⟨?_, ew, by omega⟩
      rw [ew, cutn s p (p + ((unl B).length + 2)) rfl rfl (by omega), h.eq, e1, Nat.add_sub_cancel_left]
      exact List.take_left' (by simp)
    have hidx2 := idx_lines A tail h.noLine h.noTail
    generalize idxsI [10, 46, 10] (10 :: (unl A ++ tail)) = ix at *
    cases hm : mailL A with
    | some pr =>
      obtain ⟨m', R⟩ := pr
      rw [hm] at hres
      simp only at hres
      obtain ⟨r1, r2, r3⟩ := hres
      subst r1
      simp only [r2, if_true]
      obtain ⟨hcan, hone⟩ := mail_canon h.noLine hm
      have hcan2 : A = mlinesB m ++ [46] :: R := by rw [hcan, mlinesB_eq]; simp
      rcases hidx2 with ⟨hno, _⟩ | ⟨B, C, hBC, hB, hix⟩
      · exact absurd (by rw [hcan2]; simp) hno
      · obtain ⟨e1, e2⟩ := first_dot (hBC.symm.trans hcan2) hB (mlinesB_dot m)
        subst e1; subst e2
        obtain ⟨t1, t2, t3⟩ := htext _ _ hBC
        rw [hix, if_neg (by omega), t1]
        rw [t2, gate_pos (bounds_of (by omega) (by omega) (by omega))]
        have hfree : ∀ x ∈ mlinesB m, (10 : Int) ∉ x := fun x hx => h.noLine x (by rw [hcan2]; exact List.mem_append_left _ hx)
        have hul : (unl (mlinesB m)).length ≤ 65536 := by omega
        obtain ⟨mm, okk, f1, f2⟩ := mailOf_eq N (mlinesB m) hfree hul hN
        rw [of_back hone] at f2
        obtain ⟨f2, f3⟩ := f2
        subst f2
        have htot := mofL_tot (of_back hone) (by rw [unl_app, List.length_append]; have : (unl ([[]] : List (List Int))).length = 1 := rfl; omega)
        have hte := text_eq N mm htot.fits htot.ends hN
        have hmi : mailI mm = unl (mlinesB mm) ++ [46, 10] := by
          rw [← unl_lines mm htot.ends, mlinesB_eq, unl_app]
          rfl
        rw [bindO_of f1]
        simp only [f3, Bool.not_true, Bool.false_eq_true, if_false]
        rw [bindO_of hte, hmi]
        simp only [decide_true, Bool.not_true, Bool.false_eq_true, if_false]
        have hsm2 : ∀ e ∈ out ++ [mm], Small e := by
          intro e he
          rcases List.mem_append.1 he with he | he
          · exact hsm e he
          · rw [List.mem_singleton] at he; subst he; exact htot.small
        obtain ⟨r, c1, c2, c3⟩ := check_both N (out ++ [mm]) hsm2 hN
        rw [bindO_of (clone_eq N out (by omega)), g_room (by simp only [List.length_cons, List.length_nil]; omega) (by simp only [List.length_cons, List.length_nil]; omega), bindO_of c2]
        rw [gate_pos (by rw [bounds_of (by omega) (by omega) (by omega)]; simp), cut_all, gate_pos (by rw [room_of (by simp only [List.length_cons, List.length_nil]; omega) (by simp only [List.length_cons, List.length_nil]; omega)]; rfl), bindO_of c1]
        by_cases h0 : r = 0
        · subst h0
          have h60 := (resM_zero c3).1
          rw [List.length_append] at h60
          simp only [List.length_cons, List.length_nil] at h60
          rw [if_neg (by decide), if_neg (by decide)]
          rw [g_room (by simp only [List.length_cons, List.length_nil]; omega) (by simp only [List.length_cons, List.length_nil]; omega), g_room (by simp only [List.length_cons, List.length_nil]; omega) (by simp only [List.length_cons, List.length_nil]; omega)]
          have hq : q = p + ((unl (mlinesB mm)).length + 2) := by
            have e3 := congrArg List.length r3.eq
            have e4 := r3.le
            rw [List.length_drop] at e3
            rw [hcan2, unl_app, unl_cons] at hlen
            simp only [List.length_append, List.length_cons, List.length_nil] at hlen e3
            omega
          have hlt : IntKind.wrap .i64 ((p : Int) + ((unl (mlinesB mm) ++ [46, 10]).length : Int)) = (q : Int) := by
            simp only [List.length_append, List.length_cons, List.length_nil]
            rw [w64 (by omega) (by omega)]
            omega
          rw [hlt]
          exact ih' C (out ++ [mm]) q (by rw [hcan2]; simp; omega) r3 (by rw [List.length_append]; simp only [List.length_cons, List.length_nil]; omega) hsm2
        · rw [decide_eq_false h0, if_pos (show (!false) = true from rfl), if_pos (show (!false) = true from rfl), g_room (by simp only [List.length_cons, List.length_nil]; omega) (by simp only [List.length_cons, List.length_nil]; omega)]
          exact ⟨out, p, by rw [if_neg (by omega)], rfl, ho, hle⟩
    | none =>
      rw [hm] at hres
      simp only at hres
      simp only [hres, Bool.false_eq_true, if_false]
      refine ⟨out, p, by rw [if_neg (by omega)], ?_, ho, hle⟩
      rcases hidx2 with ⟨hno, hix⟩ | ⟨B, C, hBC, hB, hix⟩
      · rw [hix, if_pos (by decide)]
      · obtain ⟨t1, t2, t3⟩ := htext _ _ hBC
        rw [hix, if_neg (by omega), t1]
        rw [t2, gate_pos (bounds_of (by omega) (by omega) (by omega))]
        have hfree : ∀ x ∈ B, (10 : Int) ∉ x := fun x hx => h.noLine x (by rw [hBC]; exact List.mem_append_left _ hx)
        have hul : (unl B).length ≤ 65536 := by omega
        obtain ⟨mm, okk, f1, f2⟩ := mailOf_eq N B hfree hul hN
        rw [bindO_of f1]
        cases hmo : mofL (B ++ [[]]) with
        | none =>
          rw [hmo] at f2
          simp only at f2
          simp only [f2, Bool.not_false, if_true]
        | some m' =>
          rw [hmo] at f2
          obtain ⟨f2, f3⟩ := f2
          subst f2
          have htot := mofL_tot hmo (by rw [unl_app, List.length_append]; have : (unl ([[]] : List (List Int))).length = 1 := rfl; omega)
          have hte := text_eq N mm htot.fits htot.ends hN
          simp only [f3, Bool.not_true, Bool.false_eq_true, if_false]
          rw [bindO_of hte]
          by_cases heq : mailI mm = unl B ++ [46, 10]
          · rw [decide_eq_true heq]
            simp only [Bool.not_true, Bool.false_eq_true, if_false]
            have hsm2 : ∀ e ∈ out ++ [mm], Small e := by
              intro e he
              rcases List.mem_append.1 he with he | he
              · exact hsm e he
              · rw [List.mem_singleton] at he; subst he; exact htot.small
            obtain ⟨r, c1, c2, c3⟩ := check_both N (out ++ [mm]) hsm2 hN
            rw [bindO_of (clone_eq N out (by omega)), g_room (by simp only [List.length_cons, List.length_nil]; omega) (by simp only [List.length_cons, List.length_nil]; omega), bindO_of c2]
            by_cases h0 : r = 0
            · exfalso
              subst h0
              have hone := (resM_zero c3).2 mm (by simp)
              have e1 : unl (linesM mm) = unl (B ++ [[46]]) := by
                rw [unl_lines mm htot.ends, heq, unl_app]
                rfl
              have e2 := unl_inj (lines_free hone) (fun x hx => by
                rcases List.mem_append.1 hx with hx | hx
                · exact hfree x hx
                · rw [List.mem_singleton] at hx; subst hx; decide) e1
              have e3 : A = linesM mm ++ C := by rw [e2, hBC]; simp
              have := mail_back hone C
              rw [← e3, hm] at this
              cases this
            · rw [decide_eq_false h0, if_pos (show (!false) = true from rfl)]
          · rw [decide_eq_false heq]
            simp only [Bool.not_false, if_true]
where
  base (A : List (List Int)) (out : List Ml) (p n1 n2 : Nat) (hA : A = []) (h : At s tail A p) (ho : out.length ≤ 60) (hn1 : A.length < n1) (hn2 : A.length < n2) :
      ∃ (out' : List Ml) (p' : Nat), iter (mail_Read.s0 N none K0 KR (s, ())) none n1 (out, s, (p : Int), ()) = (if p' = s.length then K0 (out', ()) else KR (out', (p' : Int), (3 : Int), ())) ∧
        iter (wrackref2_MailBox.s0 N none KB (s, ())) none n2 (out, (p : Int), ()) = KB (out', (p' : Int), ()) ∧ out'.length ≤ 60 ∧ p' ≤ s.length := by
    subst hA
    obtain ⟨n1, rfl⟩ := Nat.exists_eq_succ_of_ne_zero (show n1 ≠ 0 by omega)
    obtain ⟨n2, rfl⟩ := Nat.exists_eq_succ_of_ne_zero (show n2 ≠ 0 by omega)
    have hle := h.le
    have heq := h.eq
    simp only [unl, List.map_nil, List.flatten_nil, List.nil_append] at heq
    have hlen := congrArg List.length heq
    rw [List.length_drop] at hlen
    refine ⟨out, p, ?_, ?_, ho, hle⟩
    · rw [iter_eq]
      obtain ⟨m, ok, q, hr, hres⟩ := mail_step N s tail hs hN [] p h (by simp)
      simp only [mailL] at hres
      unfold mail_Read.s0
      simp only [decide_eq_true_eq]
      by_cases hp : p = s.length
      · rw [if_neg (by omega), if_pos hp]
      · rw [if_pos (by omega), if_neg hp, bindO_of hr]
        simp only [hres, Bool.false_eq_true, if_false]
    · rw [iter_eq]
      unfold wrackref2_MailBox.s0
      simp only [decide_eq_true_eq]
      have hdrop : cut s (p : Int) (s.length : Int) = tail := by rw [cut_end s p hle, heq]
      rw [gate_pos (bounds_of (by omega) (by omega) (by omega))]
      simp only [hdrop]
      rw [g_dec (by simp only [List.length_cons, List.length_nil]; omega)]
      have hidx : indexG ([10] ++ tail) [10, 46, 10] = some (-1) := by
        unfold indexG
        simp only [List.cons_append, List.nil_append]
        rw [if_pos (by simp only [List.length_cons]; omega), idx_tail h.noTail]
      rw [bindO_of hidx, if_pos (by decide)]

theorem mailReads_true (N : Nat) (s : List Int) (hN : 1048577 < N) : wracklaw2_MailReads N s = some true := by
  unfold wracklaw2_MailReads
  by_cases hbig : 65536 < s.length
  · have hrd : mail_Read N s = some ([], ((0 : Int), (2 : Int))) := by
      unfold mail_Read
      rw [if_pos (by rw [decide_eq_true_eq]; omega)]
    have hrp : mail_Repair N s = some ([], ((0 : Int), (2 : Int))) := by
      unfold mail_Repair
      rw [bindO_of hrd]
      rfl
    rw [bindO_of hrd, bindO_of hrp, if_pos (by rw [decide_eq_true_eq]; omega), mails_true N hN]
    rfl
  · obtain ⟨A, tail, h1, h2, h3⟩ := pieces s
    have hat : At s tail A 0 := ⟨Nat.zero_le _, by rw [List.drop_zero]; exact h1, h2, h3⟩
    have hl : A.length ≤ 65536 := by
      have := unl_ge A
      have := congrArg List.length h1
      rw [List.length_append] at this
      omega
    obtain ⟨out, p, e1, e2, e3, e4⟩ := both N s tail (by omega) hN (fun x => some (x.1, ((0 : Int), (0 : Int)))) (fun x => some (x.1, (x.2.1, x.2.2.1))) (fun x => some (x.1, x.2.1)) A.length A [] 0 N N (Nat.le_refl _) hat (by simp) (fun _ h => (by cases h)) (by omega) (by omega)
    have hrd : mail_Read N s = if p = s.length then some (out, ((0 : Int), (0 : Int))) else some (out, ((p : Int), (3 : Int))) := by
      unfold mail_Read
      rw [if_neg (by rw [decide_eq_true_eq]; omega)]
      exact e1
    have hbx : wrackref2_MailBox N s = some (out, (p : Int)) := by
      unfold wrackref2_MailBox
      exact e2
    have htake : cut s (0 : Int) (p : Int) = s.take p := mcut_take s p
    by_cases hp : p = s.length
    · rw [if_pos hp] at hrd
      have hrp : mail_Repair N s = some (s, ((0 : Int), (0 : Int))) := by
        unfold mail_Repair
        rw [bindO_of hrd]
        rfl
      rw [bindO_of hrd, bindO_of hrp, if_neg (by rw [decide_eq_true_eq]; omega), bindO_of hbx, mails_true N hN, rsameMails N out (by omega) hN]
      simp only [bindO, Bool.not_true, Bool.false_eq_true, if_false, decide_true]
      rw [gate_pos (bounds_of (by omega) (by omega) (by omega)), htake, List.take_of_length_le (by omega), w64 (by omega) (by omega)]
      rw [decide_eq_true (show (0 : Int) = (s.length : Int) - (p : Int) by omega)]
      simp only [decide_true, Bool.not_true, Bool.false_eq_true, if_false]
      rw [if_pos (by rw [decide_eq_true_eq]; omega)]
      simp
    · rw [if_neg hp] at hrd
      have hrp : mail_Repair N s = some (s.take p, ((s.length : Int) - (p : Int), (0 : Int))) := by
        unfold mail_Repair
        rw [bindO_of hrd]
        simp only [decide_true, if_true]
        rw [gate_pos (bounds_of (by omega) (by omega) (by omega)), htake, w64 (by omega) (by omega)]
      rw [bindO_of hrd, bindO_of hrp, if_neg (by rw [decide_eq_true_eq]; omega), bindO_of hbx, mails_true N hN, rsameMails N out (by omega) hN]
      simp only [bindO, Bool.not_true, Bool.false_eq_true, if_false, decide_true]
      rw [gate_pos (bounds_of (by omega) (by omega) (by omega)), htake, w64 (by omega) (by omega)]
      simp only [decide_true, Bool.not_true, Bool.false_eq_true, if_false]
      rw [if_neg (by rw [decide_eq_true_eq]; omega)]
      simp

end Go.Proofs.YtnklmlnkiepdiaaGreatDoor
