/-
  PLAIN: all plain texts that mailPrints_true needs, in one.
-/
import Derived.Test.YtnklmlnkiepdiaaDoorAbPlain
import Derived.Test.YtnklmlnkiepdiaaDoorPu
import Derived.Test.YtnklmlnkiepdiaaDoorAbIterFn
import Derived.Test.YtnklmlnkiepdiaaDoorAbItoaFn
set_option linter.unusedVariables false
set_option linter.unusedSimpArgs false
namespace Go.Proofs.YtnklmlnkiepdiaaDoor
open Go Go.Ab

theorem splitI_ne (c : Int) : ∀ l, splitI c l ≠ [] := by
  intro l
  cases l with
  | nil => simp [splitI]
  | cons x r =>
    simp only [splitI]
    split
    · simp
    · split <;> simp

theorem joinI_cons (sep x : List Int) (y : List Int) (r : List (List Int)) : joinI sep (x :: y :: r) = x ++ (sep ++ joinI sep (y :: r)) := by
  simp [joinI, List.intercalate]

def nameCh (x : Int) : Bool := decide (97 ≤ x ∧ x ≤ 122) || decide (48 ≤ x ∧ x ≤ 57) || decide (x = 45)

def nameB (s : List Int) : Bool := match s with
  | [] => false
  | x :: r => decide (s.length ≤ 12) && (decide (97 ≤ x ∧ x ≤ 122) && s.all nameCh)

theorem named_eq (N : Nat) (s : List Int) (hs : s.length ≤ 1048576) (hN : 1048577 < N) : fs_Named N s = some (nameB s) := by
  unfold fs_Named
  cases s with
  | nil => rfl
  | cons x r =>
    have e0 : getI 0 (x :: r) (0 : Int) = x := rfl
    rw [if_neg (by simp)]
    by_cases hl : (x :: r).length ≤ 12
    · rw [if_neg (by simp only [decide_eq_true_eq]; omega), gate_pos (inR_of (by omega) (by simp)), gate_pos (inR_of (by omega) (by simp)), e0]
      simp only [decide_eq_true_eq]
      by_cases h1 : x < 97
      · rw [if_pos h1]
        have : nameB (x :: r) = false := by
          simp only [nameB]
          have : decide (97 ≤ x ∧ x ≤ 122) = false := by simp; omega
          rw [this]; simp
        rw [this]; rfl
      · rw [if_neg h1]
        by_cases h2 : x > 122
        · have : nameB (x :: r) = false := by
            simp only [nameB]
            have : decide (97 ≤ x ∧ x ≤ 122) = false := by simp; omega
            rw [this]; simp
          rw [this]
          simp [bindO, h2]
        · have hx : decide (97 ≤ x ∧ x ≤ 122) = true := by simp; omega
          have hnb : nameB (x :: r) = (x :: r).all nameCh := by
            simp only [nameB]
            rw [hx]
            simp only [Bool.true_and]
            rw [show decide ((x :: r).length ≤ 12) = true by simpa using hl]
            simp
          rw [hnb]
          simp only [bindO, h2, decide_false]
          rw [if_neg (by decide)]
          generalize hy : x :: r = y at *
          refine iter_rule (fun v => ∃ i : Nat, v = ((i : Int), ()) ∧ i ≤ y.length ∧ ∀ j : Nat, j < i → nameCh (y.getD j 0) = true) (fun v => y.length - v.1.toNat)
            (fun o => o = some (y.all nameCh)) ?_ N _ ⟨0, rfl, Nat.zero_le _, fun j hj => absurd hj (Nat.not_lt_zero _)⟩ (by simp only; omega)
          rintro v again ⟨i, rfl, hi, hall⟩ hag
          unfold fs_Named.s0
          simp only [decide_eq_true_eq]
          by_cases hlt : i < y.length
          · rw [if_pos (by omega), gate_pos (inR_of (by omega) (by omega)), getI_nat]
            generalize hz : y.getD i 0 = z
            have body : (if z < 97 then (if z < 48 then some (!decide (z = 45)) else if z > 57 then some (!decide (z = 45)) else some false) else if z > 122 then (if z < 48 then some (!decide (z = 45)) else if z > 57 then some (!decide (z = 45)) else some false) else some false : Option Bool) = some (!nameCh z) := by
              unfold nameCh
              repeat' split
              all_goals
                simp only [Option.some.injEq, Bool.not_or, Bool.false_eq, Bool.and_eq_false_imp]
                rw [Bool.eq_iff_iff]
                simp
                try omega
            rw [body]
            simp only [bindO]
            cases hc : nameCh z with
            | true =>
              simp only [Bool.not_true, Bool.false_eq_true, if_false]
              rw [w64 (by omega) (by omega)]
              refine hag _ ⟨i + 1, by simp, by omega, fun j hj => ?_⟩ (by simp only; omega)
              rcases Nat.lt_or_eq_of_le (Nat.le_of_lt_succ hj) with h | h
              · exact hall j h
              · subst h; rw [hz]; exact hc
            | false =>
              simp only [Bool.not_false, if_true, Option.some.injEq, Bool.false_eq]
              rw [List.all_eq_false]
              refine ⟨y[i], List.getElem_mem hlt, ?_⟩
              rw [List.getD_eq_getElem?_getD, List.getElem?_eq_getElem hlt] at hz
              simp only [Option.getD_some] at hz
              rw [hz, hc]
              simp
          · rw [if_neg (by omega)]
            simp only [Option.some.injEq, Bool.true_eq, List.all_eq_true]
            intro z hz
            obtain ⟨j, hj, rfl⟩ := List.getElem_of_mem hz
            have := hall j (by omega)
            rw [List.getD_eq_getElem?_getD, List.getElem?_eq_getElem hj] at this
            exact this
    · rw [if_pos (by simp only [decide_eq_true_eq]; omega)]
      have : nameB (x :: r) = false := by
        simp only [nameB]
        have : decide ((x :: r).length ≤ 12) = false := by simpa using hl
        rw [this]; simp
      rw [this]; rfl

theorem dropWhile_nil {p : Int → Bool} : ∀ l : List Int, l.dropWhile p = [] ↔ ∀ x ∈ l, p x = true := by
  intro l
  induction l with
  | nil => simp
  | cons x r ih =>
    simp only [List.dropWhile_cons, List.mem_cons, forall_eq_or_imp]
    cases h : p x with
    | true => simp [ih]
    | false => simp

theorem trimI_nil (cs l : List Int) : trimI cs l = [] ↔ ∀ x ∈ l, cs.contains x = true := by
  have hd : ∀ m : List Int, (∀ x ∈ m.dropWhile (cs.contains ·), cs.contains x = true) → m.dropWhile (cs.contains ·) = [] := by
    intro m
    induction m with
    | nil => intro _; rfl
    | cons x r ih =>
      intro h
      rw [List.dropWhile_cons] at h ⊢
      cases hc : cs.contains x with
      | true => rw [hc] at h; simp only [if_true] at h ⊢; exact ih h
      | false =>
        rw [hc] at h
        simp only [Bool.false_eq_true, if_false, List.mem_cons, forall_eq_or_imp] at h
        rw [hc] at h
        exact absurd h.1 (by decide)
  unfold trimI
  rw [dropWhile_nil]
  constructor
  · intro h
    have h1 := hd l.reverse (fun x hx => h x (by simpa using hx))
    rw [dropWhile_nil] at h1
    exact fun x hx => h1 x (by simpa using hx)
  · intro h x hx
    have h1 : x ∈ l.reverse.dropWhile (cs.contains ·) := by simpa using hx
    exact h x (by simpa using (List.dropWhile_sublist _).mem h1)

theorem idxI_ge (c : Int) : ∀ l : List Int, -1 ≤ idxI c l ∧ (0 ≤ idxI c l ↔ c ∈ l) := by
  intro l
  induction l with
  | nil => simp [idxI]
  | cons x r ih =>
    obtain ⟨h1, h2⟩ := ih
    simp only [idxI, List.mem_cons]
    by_cases h : x = c
    · rw [if_pos h]
      simp [h]
    · rw [if_neg h]
      by_cases h3 : idxI c r = -1
      · rw [if_pos h3]
        refine ⟨by omega, ?_⟩
        constructor
        · intro h4; omega
        · intro h4
          rcases h4 with h4 | h4
          · exact absurd h4.symm h
          · have := h2.2 h4; omega
      · rw [if_neg h3]
        refine ⟨by omega, ?_⟩
        constructor
        · intro h4; exact Or.inr (h2.1 (by omega))
        · intro h4
          rcases h4 with h4 | h4
          · exact absurd h4.symm h
          · have := h2.2 h4; omega

theorem letter_mem (x : Int) : x ∈ ([97, 98, 99, 100, 101, 102, 103, 104, 105, 106, 107, 108, 109, 110, 111, 112, 113, 114, 115, 116, 117, 118, 119, 120, 121, 122] : List Int) ↔ 97 ≤ x ∧ x ≤ 122 := by
  simp only [List.mem_cons, List.not_mem_nil, or_false]
  omega

theorem nameCh_mem (x : Int) : ([97, 98, 99, 100, 101, 102, 103, 104, 105, 106, 107, 108, 109, 110, 111, 112, 113, 114, 115, 116, 117, 118, 119, 120, 121, 122, 48, 49, 50, 51, 52, 53, 54, 55, 56, 57, 45] : List Int).contains x = nameCh x := by
  rw [Bool.eq_iff_iff]
  simp only [List.contains_eq_mem, decide_eq_true_eq, nameCh, Bool.or_eq_true, List.mem_cons, List.not_mem_nil, or_false]
  omega

theorem word_eq (N : Nat) (s : List Int) : wrackref2_Word N s = some (nameB s) := by
  unfold wrackref2_Word
  cases s with
  | nil => rfl
  | cons x r =>
    simp only [decide_eq_true_eq]
    rw [if_pos (by simp)]
    by_cases hl : ((x :: r).length : Int) ≤ 12
    · rw [if_pos hl, gate_pos (bounds_of (by omega) (by omega) (by simp only [List.length_cons]; omega))]
      have ec : cut (x :: r) (0 : Int) (1 : Int) = [x] := rfl
      have hcon : strings_Contains N [97, 98, 99, 100, 101, 102, 103, 104, 105, 106, 107, 108, 109, 110, 111, 112, 113, 114, 115, 116, 117, 118, 119, 120, 121, 122] [x] = some (decide (97 ≤ x ∧ x ≤ 122)) := by
        unfold strings_Contains
        simp only [indexF, bindO, Option.some.injEq, ge_iff_le]
        rw [Bool.eq_iff_iff]
        simp only [decide_eq_true_eq]
        rw [(idxI_ge x _).2, letter_mem]
      rw [ec, bindO_of hcon]
      by_cases hx : 97 ≤ x ∧ x ≤ 122
      · rw [if_pos (by simpa using hx)]
        have ht : trimF (x :: r) [97, 98, 99, 100, 101, 102, 103, 104, 105, 106, 107, 108, 109, 110, 111, 112, 113, 114, 115, 116, 117, 118, 119, 120, 121, 122, 48, 49, 50, 51, 52, 53, 54, 55, 56, 57, 45] = some (trimI [97, 98, 99, 100, 101, 102, 103, 104, 105, 106, 107, 108, 109, 110, 111, 112, 113, 114, 115, 116, 117, 118, 119, 120, 121, 122, 48, 49, 50, 51, 52, 53, 54, 55, 56, 57, 45] (x :: r)) := by
          unfold trimF
          rw [if_pos (by decide)]
        rw [bindO_of ht]
        simp only [bindO, Option.some.injEq, nameB]
        rw [decide_eq_true (show (x :: r).length ≤ 12 by omega), decide_eq_true hx]
        simp only [Bool.true_and]
        rw [Bool.eq_iff_iff]
        simp only [decide_eq_true_eq, trimI_nil, nameCh_mem, List.all_eq_true]
      · rw [if_neg (by simpa using hx)]
        simp only [bindO, nameB]
        rw [decide_eq_false hx]
        simp
    · rw [if_neg hl]
      simp only [bindO, nameB]
      rw [decide_eq_false (show ¬ (x :: r).length ≤ 12 by omega)]
      simp

theorem splitI_len (c : Int) : ∀ l : List Int, (splitI c l).length ≤ l.length + 1 ∧ ∀ p ∈ splitI c l, p.length ≤ l.length := by
  intro l
  induction l with
  | nil => simp [splitI]
  | cons x r ih =>
    simp only [splitI]
    obtain ⟨h1, h2⟩ := ih
    split
    · refine ⟨by simp; omega, fun p hp => ?_⟩
      rcases List.mem_cons.1 hp with hp | hp
      · subst hp; simp
      · have := h2 p hp; simp; omega
    · split
      · rename_i a t hs
        rw [hs] at h1 h2
        refine ⟨by simp at h1 ⊢; omega, fun p hp => ?_⟩
        rcases List.mem_cons.1 hp with hp | hp
        · subst hp
          have := h2 a (by simp)
          simp; omega
        · have := h2 p (by simp [hp])
          simp; omega
      · exact ⟨by simp, fun p hp => by simp at hp; subst hp; simp⟩

/-- a text whose lines all end -/
def endsB (t : List Int) : Bool := decide (t = []) || decide (t.getLast? = some 10)

theorem splitI_at (c : Int) (r : List Int) : splitI c (c :: r) = [] :: splitI c r := by simp [splitI]

theorem splitI_off {c x : Int} {r p : List Int} {q : List (List Int)} (h : x ≠ c) (hs : splitI c r = p :: q) : splitI c (x :: r) = (x :: p) :: q := by
  simp only [splitI]
  rw [if_neg h, hs]

/-- what lies behind the last cut, where it isn't empty -/
def restI (ls : List (List Int)) : List (List Int) := if ls.getLastD [] = [] then [] else [ls.getLastD []]

theorem lines_split : ∀ t : List Int, linesI t = (splitI 10 t).dropLast.map (· ++ [10]) ++ restI (splitI 10 t) := by
  intro t
  induction t with
  | nil => simp [linesI, splitI, restI]
  | cons x r ih =>
    by_cases h : x = 10
    · subst h
      rw [splitI_at]
      simp only [linesI]
      rw [if_pos trivial, ih]
      cases hs : splitI 10 r with
      | nil => exact absurd hs (splitI_ne 10 r)
      | cons p q => simp [restI, List.dropLast]
    · cases hs : splitI 10 r with
      | nil => exact absurd hs (splitI_ne 10 r)
      | cons p q =>
        rw [splitI_off h hs]
        simp only [linesI]
        rw [if_neg h, ih, hs]
        cases q with
        | nil =>
          by_cases hp : p = []
          · subst hp; simp [List.dropLast, restI]
          · simp [List.dropLast, hp, restI]
        | cons p' q' => simp [List.dropLast, restI]

theorem split_last : ∀ t : List Int, (splitI 10 t).getLastD [] = [] ↔ endsB t = true := by
  intro t
  induction t with
  | nil => simp [splitI, endsB]
  | cons x r ih =>
    by_cases h : x = 10
    · subst h
      rw [splitI_at]
      cases hr : splitI 10 r with
      | nil => exact absurd hr (splitI_ne 10 r)
      | cons p q =>
        rw [hr] at ih
        have e : (([] : List Int) :: p :: q).getLastD [] = (p :: q).getLastD [] := by simp [List.getLastD]
        rw [e, ih]
        cases r with
        | nil => simp [endsB]
        | cons y s => simp [endsB]
    · cases hr : splitI 10 r with
      | nil => exact absurd hr (splitI_ne 10 r)
      | cons p q =>
        rw [splitI_off h hr]
        rw [hr] at ih
        cases q with
        | nil =>
          cases r with
          | nil =>
            simp [splitI] at hr
            simp [endsB, h, hr]
          | cons y s =>
            have h1 : endsB (x :: y :: s) = endsB (y :: s) := by simp [endsB]
            rw [h1, ← ih]
            constructor
            · intro e; simp at e
            · intro e
              simp only [List.getLastD_cons, List.getLastD_nil] at e
              subst e
              exfalso
              by_cases hy : y = 10
              · subst hy; rw [splitI_at] at hr; simp at hr; exact splitI_ne _ _ hr
              · cases hr2 : splitI 10 s with
                | nil => exact absurd hr2 (splitI_ne 10 s)
                | cons p2 q2 => rw [splitI_off hy hr2] at hr; simp at hr
        | cons p' q' =>
          have e : ((x :: p) :: p' :: q').getLastD [] = (p :: p' :: q').getLastD [] := by simp [List.getLastD]
          rw [e, ih]
          cases r with
          | nil => simp [splitI] at hr
          | cons y s => simp [endsB]

theorem lines_ends (t : List Int) (h : endsB t = true) : linesI t = (splitI 10 t).dropLast.map (· ++ [10]) := by
  rw [lines_split]
  unfold restI
  rw [if_pos ((split_last t).2 h), List.append_nil]

/-- a line, with a further dot where it begins with one -/
def dotI : List Int → List Int
  | [] => []
  | x :: r => if x = 46 then 46 :: x :: r else x :: r

theorem dotI_app (s : List Int) : dotI (s ++ [10]) = dotI s ++ [10] := by
  cases s with
  | nil => simp [dotI]
  | cons x r =>
    simp only [List.cons_append, dotI]
    by_cases h : x = 46
    · rw [if_pos h, if_pos h]; rfl
    · rw [if_neg h, if_neg h]; rfl

theorem dots_ends (t : List Int) (h : endsB t = true) : ((linesI t).map dotI).flatten = (((splitI 10 t).dropLast.map dotI).map (· ++ [10])).flatten := by
  rw [lines_ends t h, List.map_map, List.map_map]
  congr 2
  funext s
  exact dotI_app s

theorem join_end : ∀ ls : List (List Int), joinI [10] (ls ++ [[]]) = (ls.map (· ++ [10])).flatten := by
  intro ls
  induction ls with
  | nil => simp [joinI, List.intercalate]
  | cons x r ih =>
    cases r with
    | nil => simp [joinI, List.intercalate]
    | cons y s =>
      rw [List.cons_append, List.cons_append, joinI_cons]
      rw [List.cons_append] at ih
      rw [ih]
      simp

theorem split_all (p : Int → Bool) : ∀ t : List Int, (splitI 10 t).all (fun s => s.all p) = (t.filter fun x => decide (x ≠ 10)).all p := by
  intro t
  induction t with
  | nil => simp [splitI]
  | cons x r ih =>
    by_cases h : x = 10
    · subst h
      rw [splitI_at, List.all_cons, ih, List.filter_cons, if_neg (by decide)]
      simp
    · cases hr : splitI 10 r with
      | nil => exact absurd hr (splitI_ne 10 r)
      | cons a b =>
        rw [hr] at ih
        rw [splitI_off h hr, List.filter_cons, if_pos (by simpa using h)]
        simp only [List.all_cons] at ih ⊢
        rw [← ih, Bool.and_assoc]

theorem dotI_len (s : List Int) : (dotI s).length ≤ s.length + 1 := by
  cases s with
  | nil => simp [dotI]
  | cons x r => simp only [dotI]; split <;> simp

theorem mlines_len : ∀ t : List Int, (linesI t).length ≤ t.length := by
  intro t
  induction t with
  | nil => simp [linesI]
  | cons x r ih =>
    simp only [linesI]
    split
    · simp; omega
    · split
      · simp
      · rename_i h t' e
        rw [e] at ih
        simp at ih ⊢; omega

theorem mlines_flat : ∀ t : List Int, (linesI t).flatten = t := by
  intro t
  induction t with
  | nil => simp [linesI]
  | cons x r ih =>
    simp only [linesI]
    split
    · simp [ih]
    · split
      · rename_i e; rw [e] at ih; simp at ih ⊢; exact ih
      · rename_i h t' e; rw [e] at ih; simp at ih ⊢; exact ih

theorem mlines_ne : ∀ t : List Int, ∀ s ∈ linesI t, s ≠ [] := by
  intro t
  induction t with
  | nil => simp [linesI]
  | cons x r ih =>
    simp only [linesI]
    split
    · intro s hs; rcases List.mem_cons.1 hs with h | h
      · subst h; simp
      · exact ih s h
    · split
      · intro s hs; simp at hs; subst hs; simp
      · rename_i h t' e
        intro s hs
        rcases List.mem_cons.1 hs with h2 | h2
        · subst h2; simp
        · exact ih s (by rw [e]; exact List.mem_cons_of_mem _ h2)

theorem dots_len (ls : List (List Int)) : ((ls.map dotI).flatten).length ≤ ls.flatten.length + ls.length := by
  induction ls with
  | nil => simp
  | cons x r ih =>
    have := dotI_len x
    simp only [List.map_cons, List.flatten_cons, List.length_append, List.length_cons]
    omega

theorem mapGet_put {v : Ty} (z : List Int) : ∀ (m : List (List Int × v.den)) (x : List Int) (y : v.den), mapGet (k := .str) (v := v) (mapPut (k := .str) (v := v) m x y) z = if z = x then some y else mapGet (k := .str) (v := v) m z := by
  intro m x y
  induction m with
  | nil =>
    simp only [mapPut, mapGet, keyEq, decide_eq_true_eq]
  | cons e r ih =>
    simp only [mapPut, keyEq, decide_eq_true_eq]
    by_cases h : x = e.1
    · rw [if_pos h]
      simp only [mapGet, keyEq, decide_eq_true_eq]
      by_cases h2 : z = x
      · rw [if_pos h2, if_pos h2]
      · rw [if_neg h2, if_neg h2, if_neg (by rw [← h]; exact h2)]
    · rw [if_neg h]
      simp only [mapGet, keyEq, decide_eq_true_eq]
      by_cases h2 : z = e.1
      · rw [if_pos h2, if_pos h2, if_neg (fun e2 => h (by rw [← e2, h2]))]
      · rw [if_neg h2, if_neg h2, ih]

theorem g_room {R : Type} {n b : Nat} {k s : R} (h : n * b ≤ 140737488355328) (h' : n ≤ 140737488355328) : gate (roomFor n b) k s = k := gate_pos (room_of h h')

theorem g_dec {R : Type} {p : Prop} [Decidable p] {k s : R} (h : p) : gate (decide p) k s = k := gate_pos (decide_eq_true h)

theorem cut_end {α : Type} (xs : List α) (l : Nat) (h : l ≤ xs.length) : cut xs (l : Int) (xs.length : Int) = xs.drop l := by
  rw [cut_nat xs l xs.length h]
  exact List.take_of_length_le (by simp)

abbrev Ml := List Int × Int × List Int × List Int × Bool × List Int × List Int

abbrev ml0 : Ml := ([], (0 : Int), [], [], false, [], [])

theorem all_getD {α : Type} {d : α} {p : α → Bool} {s : List α} (h : ∀ j, j < s.length → p (s.getD j d) = true) : s.all p = true := by
  rw [List.all_eq_true]
  intro z hz
  obtain ⟨j, hj, rfl⟩ := List.getElem_of_mem hz
  have := h j hj
  rw [List.getD_eq_getElem?_getD, List.getElem?_eq_getElem hj] at this
  exact this

theorem any_getD {α : Type} {d : α} {p : α → Bool} {s : List α} {j : Nat} (hj : j < s.length) (h : p (s.getD j d) = false) : s.all p = false := by
  rw [List.all_eq_false]
  refine ⟨s[j], List.getElem_mem hj, ?_⟩
  rw [List.getD_eq_getElem?_getD, List.getElem?_eq_getElem hj] at h
  simp only [Option.getD_some] at h
  rw [h]; decide

def plainCh (x : Int) : Bool := decide (32 ≤ x ∧ x ≤ 126)

theorem plain1_eq (N : Nat) (c : Int) : mail_plain_1 N c = some (!plainCh c) := by
  unfold mail_plain_1 plainCh
  simp only [decide_eq_true_eq]
  by_cases h : c < 32
  · rw [if_pos h]
    simp only [bindO, Option.some.injEq]
    rw [decide_eq_false (show ¬ (32 ≤ c ∧ c ≤ 126) by omega)]
    rfl
  · rw [if_neg h]
    simp only [bindO, Option.some.injEq]
    by_cases h2 : c > 126
    · rw [decide_eq_true h2, decide_eq_false (show ¬ (32 ≤ c ∧ c ≤ 126) by omega)]; rfl
    · rw [decide_eq_false h2, decide_eq_true (show (32 ≤ c ∧ c ≤ 126) by omega)]; rfl

theorem plain_eq (N : Nat) (s : List Int) (hs : s.length ≤ 1048576) (hN : 1048577 < N) : mail_plain N s = some (s.all plainCh) := by
  unfold mail_plain
  rw [gate_pos (room_of (by omega) (by omega))]
  refine iter_rule (fun v => ∃ i : Nat, v = ((i : Int), ()) ∧ i ≤ s.length ∧ ∀ j : Nat, j < i → plainCh (s.getD j 0) = true) (fun v => s.length - v.1.toNat)
    (fun o => o = some (s.all plainCh)) ?_ N _ ⟨0, rfl, Nat.zero_le _, fun j hj => absurd hj (Nat.not_lt_zero _)⟩ (by simp only; omega)
  rintro v again ⟨i, rfl, hi, hall⟩ hag
  unfold mail_plain_i0_slices_ContainsFunc_i0_slices_IndexFunc.s0
  simp only [decide_eq_true_eq]
  by_cases hlt : i < s.length
  · rw [if_pos (by omega), gate_pos (inR_of (by omega) (by omega)), getI_nat, bindO_of (plain1_eq N _)]
    cases hc : plainCh (s.getD i 0) with
    | true =>
      simp only [Bool.not_true, Bool.false_eq_true, if_false]
      rw [w64 (by omega) (by omega)]
      refine hag _ ⟨i + 1, by simp, by omega, fun j hj => ?_⟩ (by simp only; omega)
      rcases Nat.lt_or_eq_of_le (Nat.le_of_lt_succ hj) with h | h
      · exact hall j h
      · subst h; exact hc
    | false =>
      simp only [Bool.not_false, if_true, Option.some.injEq]
      rw [any_getD hlt hc, decide_eq_true (show (i : Int) ≥ 0 by omega)]
      rfl
  · rw [if_neg (by omega), all_getD (d := 0) (fun j hj => hall j (by omega))]
    rfl

theorem clean_eq (N : Nat) (s : List Int) (hs : s.length ≤ 1048576) (hN : 1048577 < N) : wrackref2_MailErr_1 N s = some (s.all plainCh) := by
  unfold wrackref2_MailErr_1
  refine iter_rule (fun v => ∃ i : Nat, v = ((i : Int), ()) ∧ i ≤ s.length ∧ ∀ j : Nat, j < i → plainCh (s.getD j 0) = true) (fun v => s.length - v.1.toNat)
    (fun o => o = some (s.all plainCh)) ?_ N _ ⟨0, rfl, Nat.zero_le _, fun j hj => absurd hj (Nat.not_lt_zero _)⟩ (by simp only; omega)
  rintro v again ⟨i, rfl, hi, hall⟩ hag
  unfold wrackref2_MailErr_1.s0
  simp only [decide_eq_true_eq]
  by_cases hlt : i < s.length
  · rw [if_pos (by omega), gate_pos (inR_of (by omega) (by omega)), gate_pos (inR_of (by omega) (by omega)), getI_nat]
    have body : (if s.getD i 0 < 32 then some true else some (decide (s.getD i 0 > 126)) : Option Bool) = some (!plainCh (s.getD i 0)) := by
      have := plain1_eq N (s.getD i 0)
      unfold mail_plain_1 at this
      simp only [decide_eq_true_eq] at this
      rw [← this]
      split <;> rfl
    rw [bindO_of body]
    cases hc : plainCh (s.getD i 0) with
    | true =>
      simp only [Bool.not_true, Bool.false_eq_true, if_false]
      rw [w64 (by omega) (by omega)]
      refine hag _ ⟨i + 1, by simp, by omega, fun j hj => ?_⟩ (by simp only; omega)
      rcases Nat.lt_or_eq_of_le (Nat.le_of_lt_succ hj) with h | h
      · exact hall j h
      · subst h; exact hc
    | false =>
      simp only [Bool.not_false, if_true, Option.some.injEq]
      rw [any_getD hlt hc]
  · rw [if_neg (by omega), all_getD (d := 0) (fun j hj => hall j (by omega))]

theorem getLast_drop {s : List Int} (h : s ≠ []) (x : Int) : s.drop (s.length - 1) = [x] ↔ s.getLast? = some x := by
  obtain ⟨a, b, rfl⟩ : ∃ a b, s = a ++ [b] := ⟨s.dropLast, s.getLast h, (List.dropLast_concat_getLast h).symm⟩
  simp

theorem suffix_eq (N : Nat) (s : List Int) (hs : s.length ≤ 1048576) : strings_HasSuffix N s [10] = some (decide (s.getLast? = some 10)) := by
  have key : stringslite_HasSuffix N s [10] = some (decide (s.getLast? = some 10)) := by
    unfold stringslite_HasSuffix
    simp only [decide_eq_true_eq, List.length_cons, List.length_nil]
    by_cases h : (s.length : Int) ≥ ((0 + 1 : Nat) : Int)
    · have hne : s ≠ [] := by intro e; subst e; simp at h
      rw [if_pos h]
      have e := cut_end s (s.length - 1) (by omega)
      have ew : IntKind.wrap .i64 ((s.length : Int) - ((0 + 1 : Nat) : Int)) = ((s.length - 1 : Nat) : Int) := by rw [w64 (by omega) (by omega)]; omega
      simp only [ew, e]
      rw [gate_pos (bounds_of (by omega) (by omega) (by omega))]
      simp only [bindO, Option.some.injEq]
      rw [Bool.eq_iff_iff]
      simp only [decide_eq_true_eq]
      exact getLast_drop hne 10
    · rw [if_neg h]
      have : s = [] := by
        cases s with
        | nil => rfl
        | cons x r => simp at h; omega
      subst this
      rfl
  unfold strings_HasSuffix
  rw [bindO_of key]

/-- a reference: none, or a name -/
def refB (s : List Int) : Bool := decide (s = []) || nameB s

/-- what a message's check reports -/
def oneI (m : Ml) : Int :=
  if (nameB m.1 && nameB m.2.2.1 && refB m.2.2.2.1) = false then 6
  else if m.2.1 < 0 ∨ 4294967295 < m.2.1 then 21
  else if (m.2.2.2.2.2.1.all plainCh && endsB m.2.2.2.2.2.2 && (m.2.2.2.2.2.2.filter fun x => decide (x ≠ 10)).all plainCh) = false then 3 else 0

/-- the lengths that a small argument gives -/
def Small (m : Ml) : Prop := m.1.length ≤ 1048576 ∧ m.2.2.1.length ≤ 1048576 ∧ m.2.2.2.1.length ≤ 1048576 ∧ m.2.2.2.2.2.1.length ≤ 1048576 ∧ m.2.2.2.2.2.2.length ≤ 1048576

theorem endsB_eq (t : List Int) : endsB t = (decide (t = []) || decide (t.getLast? = some 10)) := rfl

theorem one_eq (N : Nat) (m : Ml) (hm : Small m) (hN : 1048577 < N) : mail_one N m = some (oneI m) := by
  obtain ⟨h1, h2, h3, h4, h5⟩ := hm
  unfold mail_one
  have names : (bindO (fs_Named N m.1) (fun r6 => if (!r6) = true then some true else bindO (fs_Named N m.2.2.1) (fun r11 => if (!r11) = true then some true else if (!decide (m.2.2.2.1 = [])) = true then bindO (fs_Named N m.2.2.2.1) (fun r21 => some (!r21)) none else some false) none) none : Option Bool) = some (!(nameB m.1 && nameB m.2.2.1 && refB m.2.2.2.1)) := by
    rw [bindO_of (named_eq N _ h1 hN)]
    cases nameB m.1 with
    | false => rfl
    | true =>
      rw [if_neg (by decide), bindO_of (named_eq N _ h2 hN)]
      cases nameB m.2.2.1 with
      | false => rfl
      | true =>
        rw [if_neg (by decide)]
        unfold refB
        by_cases hr : m.2.2.2.1 = []
        · rw [decide_eq_true hr]; rfl
        · rw [decide_eq_false hr, if_pos (by decide), bindO_of (named_eq N _ h3 hN)]
          simp
  simp only [names]
  unfold oneI
  cases hnm : (nameB m.1 && nameB m.2.2.1 && refB m.2.2.2.1) with
  | false => rfl
  | true =>
    simp only [bindO, Bool.not_true, Bool.false_eq_true, if_false, decide_eq_true_eq, Bool.true_eq_false]
    have times : (if m.2.1 < 0 then some true else some (decide (m.2.1 > 4294967295)) : Option Bool) = some (decide (m.2.1 < 0 ∨ 4294967295 < m.2.1)) := by
      by_cases h : m.2.1 < 0
      · rw [if_pos h, decide_eq_true (Or.inl h)]
      · rw [if_neg h]
        congr 1
        rw [Bool.eq_iff_iff]
        simp only [decide_eq_true_eq]
        omega
    rw [times]
    simp only
    by_cases ht : m.2.1 < 0 ∨ 4294967295 < m.2.1
    · rw [decide_eq_true ht, if_pos rfl, if_pos ht]
    · rw [decide_eq_false ht, if_neg (by decide), if_neg ht, plain_eq N _ h4 hN]
      simp only
      have hd : dropF m.2.2.2.2.2.2 [10] [] = some (m.2.2.2.2.2.2.filter fun x => decide (x ≠ 10)) := by
        unfold dropF
        simp only
        rw [if_pos (by omega)]
      have hfl : (m.2.2.2.2.2.2.filter fun x => decide (x ≠ 10)).length ≤ 1048576 := Nat.le_trans (List.length_filter_le _ _) h5
      cases m.2.2.2.2.2.1.all plainCh with
      | false => rfl
      | true =>
        simp only [Bool.not_true, Bool.false_eq_true, if_false, Bool.true_and]
        rw [hd]
        simp only
        rw [plain_eq N _ hfl hN]
        simp only
        rw [endsB_eq]
        by_cases he : m.2.2.2.2.2.2 = []
        · rw [decide_eq_true he]
          simp only [Bool.not_true, Bool.false_eq_true, if_false, Bool.true_or, Bool.true_and]
          cases (m.2.2.2.2.2.2.filter fun x => decide (x ≠ 10)).all plainCh <;> rfl
        · rw [decide_eq_false he]
          simp only [Bool.not_false, if_true, Bool.false_or]
          rw [suffix_eq N _ h5]
          simp only
          cases decide (m.2.2.2.2.2.2.getLast? = some 10) with
          | false => rfl
          | true =>
            simp only [Bool.not_true, Bool.false_eq_true, if_false, Bool.true_and]
            cases (m.2.2.2.2.2.2.filter fun x => decide (x ≠ 10)).all plainCh <;> rfl

theorem ml_mem {l : List Ml} {i : Nat} (h : i < l.length) : l.getD i ml0 ∈ l := by
  rw [List.getD_eq_getElem?_getD, List.getElem?_eq_getElem h]
  exact List.getElem_mem h

/-- is the name there before the i-th -/
def seenM (l : List Ml) (i : Nat) (p : List Int) : Bool := (l.take i).any fun x => decide (x.2.2.1 = p)

def mailAt (l : List Ml) (i : Nat) : Int := if oneI (l.getD i ml0) = 0 then (if seenM l i (l.getD i ml0).2.2.1 = true then 7 else 0) else oneI (l.getD i ml0)

def ResM (l : List Ml) (r : Int) : Prop :=
  (60 < l.length ∧ r = 9) ∨ (l.length ≤ 60 ∧ ((∃ i, i < l.length ∧ (∀ j, j < i → mailAt l j = 0) ∧ mailAt l i ≠ 0 ∧ r = mailAt l i) ∨ ((∀ j, j < l.length → mailAt l j = 0) ∧ r = 0)))

theorem resM_unique {l : List Ml} {r q : Int} (h1 : ResM l r) (h2 : ResM l q) : r = q := by
  rcases h1 with ⟨a1, a2⟩ | ⟨a1, a2⟩
  · rcases h2 with ⟨b1, b2⟩ | ⟨b1, b2⟩
    · rw [a2, b2]
    · omega
  · rcases h2 with ⟨b1, b2⟩ | ⟨b1, b2⟩
    · omega
    · rcases a2 with ⟨i, i1, i2, i3, i4⟩ | ⟨i1, i2⟩
      · rcases b2 with ⟨k, k1, k2, k3, k4⟩ | ⟨k1, k2⟩
        · have : i = k := by
            rcases Nat.lt_trichotomy i k with h | h | h
            · exact absurd (k2 i h) i3
            · exact h
            · exact absurd (i2 k h) k3
          subst this
          rw [i4, k4]
        · exact absurd (k1 i i1) i3
      · rcases b2 with ⟨k, k1, k2, k3, k4⟩ | ⟨k1, k2⟩
        · exact absurd (i1 k k1) k3
        · rw [i2, k2]

theorem twiceM {R : Type} (N : Nat) (s : R) (k0 : (List Int × Int × List Int × List Int × Bool × List Int × List Int × Unit) → R) (kr : (List Int × Int × List Int × List Int × Bool × List Int × List Int × Int × Unit) → R) (l : List Ml)
    (a1 : List Int) (a2 : Int) (p a4 : List Int) (a5 : Bool) (a6 a7 : List Int) (hl : l.length ≤ 1048576) (Q : R → Prop)
    (h0 : (l.any fun x => decide (x.2.2.1 = p)) = false → Q (k0 (a1, a2, p, a4, a5, a6, a7, ()))) (h1 : ∀ i : Nat, (l.any fun x => decide (x.2.2.1 = p)) = true → Q (kr (a1, a2, p, a4, a5, a6, a7, (i : Int), ()))) (n : Nat) (hn : l.length < n) :
    Q (iter (mail_Check_i0_slices_ContainsFunc_i0_slices_IndexFunc.s0 N s k0 kr (l, (l.length : Int), ())) s n (a1, a2, p, a4, a5, a6, a7, (0 : Int), ())) := by
  refine iter_rule (fun v => ∃ i : Nat, v = (a1, a2, p, a4, a5, a6, a7, (i : Int), ()) ∧ i ≤ l.length ∧ ∀ j : Nat, j < i → (l.getD j ml0).2.2.1 ≠ p) (fun v => l.length - v.2.2.2.2.2.2.2.1.toNat) Q ?_ n _ ⟨0, rfl, Nat.zero_le _, fun j hj => absurd hj (Nat.not_lt_zero _)⟩ (by simp only; omega)
  rintro v again ⟨i, rfl, hi, hall⟩ hag
  unfold mail_Check_i0_slices_ContainsFunc_i0_slices_IndexFunc.s0
  simp only [decide_eq_true_eq]
  by_cases hlt : i < l.length
  · rw [if_pos (by omega), gate_pos (inR_of (by omega) (by omega)), getI_nat]
    by_cases h : (l.getD i ml0).2.2.1 = p
    · rw [if_pos h]
      refine h1 i ?_
      rw [List.any_eq_true]
      exact ⟨_, ml_mem hlt, by simpa using h⟩
    · rw [if_neg h, w64 (by omega) (by omega)]
      refine hag _ ⟨i + 1, by simp, by omega, fun j hj => ?_⟩ (by simp only; omega)
      rcases Nat.lt_or_eq_of_le (Nat.le_of_lt_succ hj) with h2 | h2
      · exact hall j h2
      · subst h2; exact h
  · rw [if_neg (by omega)]
    refine h0 ?_
    rw [List.any_eq_false]
    intro e he
    obtain ⟨j, hj, rfl⟩ := List.getElem_of_mem he
    have := hall j (by omega)
    rw [List.getD_eq_getElem?_getD, List.getElem?_eq_getElem hj] at this
    simpa using this

theorem mcut_take {α : Type} (l : List α) (i : Nat) : cut l (0 : Int) (i : Int) = l.take i := by
  have := cut_nat l 0 i (Nat.zero_le _)
  simpa using this

theorem mcheck_res (N : Nat) (l : List Ml) (hp : ∀ e ∈ l, Small e) (hN : 1048577 < N) : ∃ r, mail_Check N l = some r ∧ ResM l r := by
  unfold mail_Check
  simp only [decide_eq_true_eq]
  by_cases h60 : 60 < l.length
  · rw [if_pos (by omega)]
    exact ⟨9, rfl, Or.inl ⟨h60, rfl⟩⟩
  · rw [if_neg (by omega)]
    refine iter_rule (fun v => ∃ i : Nat, v = ((i : Int), ()) ∧ i ≤ l.length ∧ ∀ j, j < i → mailAt l j = 0) (fun v => l.length - v.1.toNat)
      (fun o => ∃ r, o = some r ∧ ResM l r) ?_ N _ ⟨0, rfl, Nat.zero_le _, fun j hj => absurd hj (Nat.not_lt_zero _)⟩ (by simp only; omega)
    rintro v again ⟨i, rfl, hi, hall⟩ hag
    unfold mail_Check.s0
    simp only [decide_eq_true_eq]
    by_cases hlt : i < l.length
    · have stop : ∀ r : Int, mailAt l i = r → r ≠ 0 → ∃ q, (some r : Option Int) = some q ∧ ResM l q := fun r h1 h2 => ⟨r, rfl, Or.inr ⟨by omega, Or.inl ⟨i, hlt, hall, by rw [h1]; exact h2, h1.symm⟩⟩⟩
      have go : mailAt l i = 0 → ∃ q, again ((i : Int) + 1, ()) = some q ∧ ResM l q := fun h => hag _ ⟨i + 1, by simp, by omega, fun j hj => by
        rcases Nat.lt_or_eq_of_le (Nat.le_of_lt_succ hj) with h2 | h2
        · exact hall j h2
        · subst h2; exact h⟩ (by simp only; omega)
      rw [if_pos (by omega), gate_pos (inR_of (by omega) (by omega)), getI_nat, bindO_of (one_eq N _ (hp _ (ml_mem hlt)) hN)]
      by_cases h1 : oneI (l.getD i ml0) = 0
      · rw [if_neg (by rw [decide_eq_true h1]; decide), gate_pos (bounds_of (by omega) (by omega) (by omega)), mcut_take]
        refine twiceM N none _ _ (l.take i) _ _ _ _ _ _ _ (by rw [List.length_take]; omega) (fun o => ∃ q, o = some q ∧ ResM l q) (fun hno => ?_) (fun k hyes => ?_) N (by rw [List.length_take]; omega)
        · rw [if_neg (by decide), w64 (by omega) (by omega)]
          exact go (by unfold mailAt; rw [if_pos h1, if_neg (by unfold seenM; rw [hno]; decide)])
        · simp only
          rw [if_pos (by omega)]
          have hyes : seenM l i (l.getD i ml0).2.2.1 = true := hyes
          exact stop 7 (by unfold mailAt; rw [if_pos h1, if_pos hyes]) (by decide)
      · rw [if_pos (by rw [decide_eq_false h1]; decide)]
        exact stop _ (by unfold mailAt; rw [if_neg h1]) h1
    · rw [if_neg (by omega)]
      exact ⟨0, rfl, Or.inr ⟨by omega, Or.inr ⟨fun j hj => hall j (by omega), rfl⟩⟩⟩

theorem cleanLoop {R : Type} (N : Nat) (s : R) (k3 : (List (List Int × Bool) × List Int × Int × List Int × List Int × Bool × List Int × List Int × Unit) → R) (kr : (Int × Unit) → R) (c1 : List Ml) (c2 c3 : Int) (seen : List (List Int × Bool)) (ls : List (List Int))
    (a1 : List Int) (a2 : Int) (a3 a4 : List Int) (a5 : Bool) (a6 a7 : List Int) (hN : 1048577 < N) (hl : ls.length ≤ 1048577) (hs : ∀ p ∈ ls, p.length ≤ 1048576) (Q : R → Prop)
    (h0 : (ls.all fun p => p.all plainCh) = true → Q (k3 (seen, a1, a2, a3, a4, a5, a6, a7, ()))) (h1 : (ls.all fun p => p.all plainCh) = false → Q (kr ((3 : Int), ()))) (n : Nat) (hn : ls.length < n) :
    Q (iter (wrackref2_MailErr.s1 N s k3 kr (c1, c2, c3, (ls.length : Int), ())) s n (seen, ls, (0 : Int), a1, a2, a3, a4, a5, a6, a7, ())) := by
  refine iter_rule (fun v => ∃ i : Nat, v = (seen, ls, (i : Int), a1, a2, a3, a4, a5, a6, a7, ()) ∧ i ≤ ls.length ∧ ∀ j : Nat, j < i → (ls.getD j []).all plainCh = true) (fun v => ls.length - v.2.2.1.toNat) Q ?_ n _ ⟨0, rfl, Nat.zero_le _, fun j hj => absurd hj (Nat.not_lt_zero _)⟩ (by simp only; omega)
  rintro v again ⟨i, rfl, hi, hall⟩ hag
  unfold wrackref2_MailErr.s1
  simp only [decide_eq_true_eq]
  by_cases hlt : i < ls.length
  · have hm : ls.getD i [] ∈ ls := by
      rw [List.getD_eq_getElem?_getD, List.getElem?_eq_getElem hlt]
      exact List.getElem_mem hlt
    rw [if_pos (by omega), gate_pos (inR_of (by omega) (by omega)), gate_pos (inR_of (by omega) (by omega)), getI_nat, bindO_of (clean_eq N _ (hs _ hm) hN)]
    cases hc : (ls.getD i []).all plainCh with
    | true =>
      rw [if_neg (by decide), w64 (by omega) (by omega)]
      refine hag _ ⟨i + 1, by simp, by omega, fun j hj => ?_⟩ (by simp only; omega)
      rcases Nat.lt_or_eq_of_le (Nat.le_of_lt_succ hj) with h2 | h2
      · exact hall j h2
      · subst h2; exact hc
    | false =>
      rw [if_pos (by decide)]
      exact h1 (any_getD (p := fun p => p.all plainCh) hlt hc)
  · rw [if_neg (by omega)]
    exact h0 (all_getD (d := []) (fun j hj => hall j (by omega)))

theorem last_getD {t : List Int} (h : t ≠ []) : t.getLast? = some (t.getD (t.length - 1) 0) := by
  have : 0 < t.length := List.length_pos_iff.2 h
  rw [List.getLast?_eq_getElem?, List.getD_eq_getElem?_getD, List.getElem?_eq_getElem (by omega)]
  rfl

theorem merr_res (N : Nat) (l : List Ml) (hp : ∀ e ∈ l, Small e) (hN : 1048577 < N) : ∃ r, wrackref2_MailErr N l = some r ∧ ResM l r := by
  unfold wrackref2_MailErr
  simp only [decide_eq_true_eq]
  by_cases h60 : 60 < l.length
  · rw [if_pos (by omega)]
    exact ⟨9, rfl, Or.inl ⟨h60, rfl⟩⟩
  · rw [if_neg (by omega)]
    refine iter_rule (fun v => ∃ (seen : List (List Int × Bool)) (i : Nat), v = (seen, (i : Int), ()) ∧ i ≤ l.length ∧ (∀ j, j < i → mailAt l j = 0) ∧ ∀ d, (mapGet (k := .str) (v := .bool) seen d).getD false = seenM l i d) (fun v => l.length - v.2.1.toNat)
      (fun o => ∃ r, o = some r ∧ ResM l r) ?_ N _ ⟨[], 0, rfl, Nat.zero_le _, fun j hj => absurd hj (Nat.not_lt_zero _), fun d => rfl⟩ (by simp only; omega)
    rintro v again ⟨seen, i, rfl, hi, hall, hmap⟩ hag
    unfold wrackref2_MailErr.s0
    simp only [decide_eq_true_eq]
    by_cases hlt : i < l.length
    · have stop : ∀ r : Int, mailAt l i = r → r ≠ 0 → ∃ q, (some r : Option Int) = some q ∧ ResM l q := fun r h1 h2 => ⟨r, rfl, Or.inr ⟨by omega, Or.inl ⟨i, hlt, hall, by rw [h1]; exact h2, h1.symm⟩⟩⟩
      have go : mailAt l i = 0 → ∃ q, again (mapPut (k := .str) (v := .bool) seen (l.getD i ml0).2.2.1 true, (i : Int) + 1, ()) = some q ∧ ResM l q := fun h => hag _ ⟨_, i + 1, rfl, by omega, fun j hj => by
          rcases Nat.lt_or_eq_of_le (Nat.le_of_lt_succ hj) with h2 | h2
          · exact hall j h2
          · subst h2; exact h, fun d => by
          rw [mapGet_put]
          have hs : seenM l (i + 1) d = (seenM l i d || decide ((l.getD i ml0).2.2.1 = d)) := by
            unfold seenM
            rw [List.take_add_one, List.any_append, List.getElem?_eq_getElem hlt, List.getD_eq_getElem?_getD, List.getElem?_eq_getElem hlt]
            simp
          rw [hs, ← hmap d]
          by_cases hd : d = (l.getD i ml0).2.2.1
          · rw [if_pos hd, decide_eq_true hd.symm]; simp
          · rw [if_neg hd, decide_eq_false (fun e => hd e.symm)]; simp⟩ (by simp only; omega)
      rw [if_pos (by omega), gate_pos (inR_of (by omega) (by omega)), getI_nat]
      obtain ⟨q1, q2, q3, q4, q5⟩ := hp _ (ml_mem hlt)
      have ho : oneI (l.getD i ml0) = oneI (l.getD i ml0) := rfl
      conv at ho => rhs; unfold oneI
      have hmt : mailAt l i = if oneI (l.getD i ml0) = 0 then (if seenM l i (l.getD i ml0).2.2.1 = true then 7 else 0) else oneI (l.getD i ml0) := rfl
      have hmg := hmap (l.getD i ml0).2.2.1
      generalize l.getD i ml0 = m at *
      have names : (bindO (wrackref2_Word N m.1) (fun r6 => if (!r6) = true then some true else bindO (wrackref2_Word N m.2.2.1) (fun r11 => if (!r11) = true then some true else if (!decide (m.2.2.2.1 = [])) = true then bindO (wrackref2_Word N m.2.2.2.1) (fun r21 => some (!r21)) none else some false) none) none : Option Bool) = some (!(nameB m.1 && nameB m.2.2.1 && refB m.2.2.2.1)) := by
        rw [bindO_of (word_eq N _)]
        cases nameB m.1 with
        | false => rfl
        | true =>
          rw [if_neg (by decide), bindO_of (word_eq N _)]
          cases nameB m.2.2.1 with
          | false => rfl
          | true =>
            rw [if_neg (by decide)]
            unfold refB
            by_cases hr : m.2.2.2.1 = []
            · rw [decide_eq_true hr]; rfl
            · rw [decide_eq_false hr, if_pos (by decide), bindO_of (word_eq N _)]
              simp
      rw [names]
      simp only [bindO]
      cases hnm : (nameB m.1 && nameB m.2.2.1 && refB m.2.2.2.1) with
      | false =>
        rw [hnm, if_pos rfl] at ho
        rw [if_pos (by decide)]
        refine stop 6 ?_ (by decide)
        rw [hmt, ho]; rfl
      | true =>
        rw [hnm, if_neg (by decide)] at ho
        rw [if_neg (by decide)]
        have times : (if m.2.1 < 0 then some true else some (decide (m.2.1 ≥ 4294967296)) : Option Bool) = some (decide (m.2.1 < 0 ∨ 4294967295 < m.2.1)) := by
          by_cases h : m.2.1 < 0
          · rw [if_pos h, decide_eq_true (Or.inl h)]
          · rw [if_neg h]
            congr 1
            rw [Bool.eq_iff_iff]
            simp only [decide_eq_true_eq]
            omega
        rw [times]
        simp only
        by_cases ht : m.2.1 < 0 ∨ 4294967295 < m.2.1
        · rw [if_pos ht] at ho
          rw [decide_eq_true ht, if_pos rfl]
          refine stop 21 ?_ (by decide)
          rw [hmt, ho]; rfl
        · rw [if_neg ht] at ho
          rw [decide_eq_false ht, if_neg (by decide), clean_eq N _ q4 hN]
          simp only
          cases hab : m.2.2.2.2.2.1.all plainCh with
          | false =>
            rw [hab, Bool.false_and, Bool.false_and, if_pos rfl] at ho
            simp only [Bool.not_false, if_true]
            refine stop 3 ?_ (by decide)
            rw [hmt, ho]; rfl
          | true =>
            rw [hab, Bool.true_and] at ho
            simp only [Bool.not_true, Bool.false_eq_true, if_false]
            have ends : (if (!decide (m.2.2.2.2.2.2 = [])) = true then gate (inR (IntKind.wrap .i64 ((m.2.2.2.2.2.2.length : Int) - 1)) (m.2.2.2.2.2.2.length : Int)) (some (!decide (getI 0 m.2.2.2.2.2.2 (IntKind.wrap .i64 ((m.2.2.2.2.2.2.length : Int) - 1)) = 10))) none else some false : Option Bool) = some (!endsB m.2.2.2.2.2.2) := by
              by_cases he : m.2.2.2.2.2.2 = []
              · rw [decide_eq_true he, he]; rfl
              · have hpos := List.length_pos_iff.2 he
                rw [decide_eq_false he, if_pos (by decide), show IntKind.wrap .i64 ((m.2.2.2.2.2.2.length : Int) - 1) = ((m.2.2.2.2.2.2.length - 1 : Nat) : Int) by rw [w64 (by omega) (by omega)]; omega, gate_pos (inR_of (by omega) (by omega)), getI_nat, endsB_eq, decide_eq_false he, last_getD he]
                simp
            rw [ends]
            simp only
            cases hen : endsB m.2.2.2.2.2.2 with
            | false =>
              rw [hen, Bool.false_and, if_pos rfl] at ho
              simp only [Bool.not_false, if_true]
              refine stop 3 ?_ (by decide)
              rw [hmt, ho]; rfl
            | true =>
              rw [hen, Bool.true_and] at ho
              simp only [Bool.not_true, Bool.false_eq_true, if_false]
              have hsp : strings_Split N m.2.2.2.2.2.2 [10] = some (splitI 10 m.2.2.2.2.2.2) := by
                unfold strings_Split
                have : genSplitF m.2.2.2.2.2.2 [10] 0 (-1) = some (splitI 10 m.2.2.2.2.2.2) := by
                  simp only [genSplitF]
                  rw [if_pos ⟨trivial, trivial, by omega⟩]
                rw [bindO_of this]
              rw [hsp]
              simp only
              obtain ⟨z1, z2⟩ := splitI_len 10 m.2.2.2.2.2.2
              refine cleanLoop N none _ _ _ _ _ _ _ _ _ _ _ _ _ _ hN (by omega) (fun p hpm => Nat.le_trans (z2 p hpm) q5) (fun o => ∃ q, o = some q ∧ ResM l q) (fun hall2 => ?_) (fun hno => ?_) N (by omega)
              · rw [split_all] at hall2
                rw [hall2, if_neg (by decide)] at ho
                simp only
                cases hs : seenM l i m.2.2.1 with
                | true =>
                  rw [hs] at hmg
                  rw [if_pos hmg]
                  refine stop 7 ?_ (by decide)
                  rw [hmt, ho, hs]; rfl
                | false =>
                  rw [hs] at hmg
                  rw [if_neg (by intro e; rw [hmg] at e; cases e), w64 (by omega) (by omega)]
                  refine go ?_
                  rw [hmt, ho, hs]; rfl
              · rw [split_all] at hno
                rw [hno, if_pos rfl] at ho
                refine stop 3 ?_ (by decide)
                rw [hmt, ho]; rfl
    · rw [if_neg (by omega)]
      exact ⟨0, rfl, Or.inr ⟨by omega, Or.inr ⟨fun j hj => hall j (by omega), rfl⟩⟩⟩

theorem oneI_text {m : Ml} (h : oneI m = 0) : nameB m.1 = true ∧ nameB m.2.2.1 = true ∧ refB m.2.2.2.1 = true ∧ 0 ≤ m.2.1 ∧ m.2.1 ≤ 4294967295 ∧ m.2.2.2.2.2.1.all plainCh = true ∧ endsB m.2.2.2.2.2.2 = true ∧ (m.2.2.2.2.2.2.filter fun x => decide (x ≠ 10)).all plainCh = true := by
  unfold oneI at h
  split at h
  · cases h
  · rename_i h1
    split at h
    · cases h
    · rename_i h2
      split at h
      · cases h
      · rename_i h3
        simp only [Bool.not_eq_false, Bool.and_eq_true] at h1 h3
        exact ⟨h1.1.1, h1.1.2, h1.2, by omega, by omega, h3.1.1, h3.1.2, h3.2⟩

theorem resM_zero {l : List Ml} (h : ResM l 0) : l.length ≤ 60 ∧ ∀ e ∈ l, oneI e = 0 := by
  rcases h with ⟨_, h⟩ | ⟨h5, h⟩
  · exact absurd h (by decide)
  · rcases h with ⟨i, _, _, h6, h7⟩ | ⟨h6, _⟩
    · exact absurd h7.symm h6
    · refine ⟨h5, fun e he => ?_⟩
      obtain ⟨j, hj, rfl⟩ := List.getElem_of_mem he
      have := h6 j hj
      unfold mailAt at this
      rw [List.getD_eq_getElem?_getD, List.getElem?_eq_getElem hj] at this
      simp only [Option.getD_some] at this
      split at this
      · assumption
      · assumption

def headI (m : Ml) : List Int := [109, 97, 105, 108, 32] ++ m.2.2.1 ++ [32] ++ m.1 ++ [32] ++ itoaI m.2.1 ++ [10]

def refI (m : Ml) : List Int := if m.2.2.2.1 = [] then [] else [114, 101, 102, 32] ++ m.2.2.2.1 ++ [10]

def goneI (m : Ml) : List Int := if m.2.2.2.2.1 = true then [103, 111, 110, 101, 10] else []

def aboutI (m : Ml) : List Int := [97, 98, 111, 117, 116, 32] ++ m.2.2.2.2.2.1 ++ [10]

def bodyI (t : List Int) : List Int := ((linesI t).map dotI).flatten

/-- what stands ahead of the text -/
def topI (m : Ml) : List Int := headI m ++ refI m ++ goneI m ++ aboutI m

def mailI (m : Ml) : List Int := topI m ++ bodyI m.2.2.2.2.2.2 ++ [46, 10]

def mboxI (l : List Ml) : List Int := l.flatMap mailI

theorem nDigits_le : ∀ (k u : Nat), u ≤ k → Go.Lib.nDigits u ≤ u + 1 := by
  intro k
  induction k with
  | zero => intro u hu; rw [Go.Lib.nDigits_small (by omega)]; omega
  | succ k ih =>
    intro u hu
    by_cases h : u < 10
    · rw [Go.Lib.nDigits_small h]; omega
    · rw [Go.Lib.nDigits_big h]
      have := ih (u / 10) (by omega)
      omega

theorem itoaI_len {n : Int} (h : 0 ≤ n) : (itoaI n).length ≤ n.toNat + 1 := by
  unfold itoaI Go.Lib.itoa
  rw [if_neg (by omega), List.length_map, Go.Lib.decDigits_length]
  exact nDigits_le _ _ (Nat.le_refl _)

theorem nameB_len {s : List Int} (h : nameB s = true) : s.length ≤ 12 ∧ s ≠ [] := by
  cases s with
  | nil => cases h
  | cons x r =>
    simp only [nameB, Bool.and_eq_true, decide_eq_true_eq] at h
    exact ⟨h.1, by simp⟩

theorem refB_len {s : List Int} (h : refB s = true) : s.length ≤ 12 := by
  unfold refB at h
  simp only [Bool.or_eq_true, decide_eq_true_eq] at h
  rcases h with h | h
  · rw [h]; simp
  · exact (nameB_len h).1

theorem bodyI_len (t : List Int) : (bodyI t).length ≤ 2 * t.length := by
  unfold bodyI
  have h1 := dots_len (linesI t)
  rw [mlines_flat] at h1
  have h2 := mlines_len t
  omega

/-- the lengths of what may be printed -/
structure Fits (m : Ml) : Prop where
  fr : m.1.length ≤ 12
  id : m.2.2.1.length ≤ 12
  rf : m.2.2.2.1.length ≤ 12
  ab : m.2.2.2.2.2.1.length ≤ 1048576
  tx : m.2.2.2.2.2.2.length ≤ 1048576
  tm : (itoaI m.2.1).length ≤ 4294967296

theorem fits_of {m : Ml} (h : oneI m = 0) (hs : Small m) : Fits m := by
  obtain ⟨h1, h2, h3, h4, h5, _⟩ := oneI_text h
  have := itoaI_len h4
  exact ⟨(nameB_len h1).1, (nameB_len h2).1, refB_len h3, hs.2.2.2.1, hs.2.2.2.2, by omega⟩

theorem topI_len {m : Ml} (h : Fits m) : (topI m).length ≤ 4296015980 := by
  have h1 := h.fr; have h2 := h.id; have h3 := h.rf; have h4 := h.ab; have h6 := h.tm
  unfold topI headI refI goneI aboutI
  split <;> split <;> simp only [List.length_append, List.length_cons, List.length_nil] <;> omega

theorem mailI_len {m : Ml} (h : Fits m) : (mailI m).length ≤ 4298113134 := by
  have h1 := topI_len h
  have h2 := bodyI_len m.2.2.2.2.2.2
  have h3 := h.tx
  unfold mailI
  simp only [List.length_append, List.length_cons, List.length_nil]
  omega

theorem dotsLoop {R : Type} (N : Nat) (s : R) (c : List Ml × Int × Int × Unit) (K : (List Int × Unit) → R) : ∀ (ls : List (List Int)) (acc : List Int), (∀ p ∈ ls, p ≠ []) → acc.length + ls.flatten.length + ls.length ≤ 8589934592 →
    foldR (mail_Print.r0 N s c) K ls (acc, ()) = K (acc ++ (ls.map dotI).flatten, ()) := by
  intro ls
  induction ls with
  | nil => intro acc _ _; simp [foldR]
  | cons p r ih =>
    intro acc hne hl
    simp only [List.flatten_cons, List.length_append, List.length_cons] at hl
    have hp := List.length_pos_iff.2 (hne p (by simp))
    rw [foldR]
    generalize foldR (mail_Print.r0 N s c) K r = again at *
    unfold mail_Print.r0
    simp only [decide_eq_true_eq]
    rw [gate_pos (inR_of (by omega) (by omega))]
    have hr := fun q hq => hne q (List.mem_cons_of_mem _ hq)
    cases p with
    | nil => exact absurd rfl (hne [] (by simp))
    | cons x t =>
      have e0 : getI 0 (x :: t) (0 : Int) = x := rfl
      rw [e0]
      simp only [List.length_cons] at hl
      by_cases h : x = 46
      · rw [if_pos h, g_room (by simp only [List.length_append, List.length_cons, List.length_nil]; omega) (by simp only [List.length_append, List.length_cons, List.length_nil]; omega), g_room (by simp only [List.length_append, List.length_cons, List.length_nil]; omega) (by simp only [List.length_append, List.length_cons, List.length_nil]; omega)]
        rw [ih _ hr (by simp only [List.length_append, List.length_cons, List.length_nil]; omega)]
        simp only [List.map_cons, dotI, if_pos h, List.flatten_cons, List.append_assoc, List.cons_append, List.nil_append]
      · rw [if_neg h, g_room (by simp only [List.length_append, List.length_cons, List.length_nil]; omega) (by simp only [List.length_append, List.length_cons, List.length_nil]; omega)]
        rw [ih _ hr (by simp only [List.length_append, List.length_cons, List.length_nil]; omega)]
        simp only [List.map_cons, dotI, if_neg h, List.flatten_cons, List.append_assoc, List.cons_append, List.nil_append]

theorem print_round {R : Type} (N : Nat) (s : R) (k0 : (List Int × Unit) → R) (kr : (List Int × Int × Unit) → R) (again : (Int × List Int × Unit) → R) (l : List Ml) (i : Nat) (acc : List Int) (hi : i < l.length) (hl : l.length ≤ 60) (hf : Fits (l.getD i ml0)) (ha : acc.length ≤ 65536) :
    mail_Print.s0 N s k0 kr (l, (l.length : Int), ()) again ((i : Int), acc, ()) =
      if 65536 < (acc ++ mailI (l.getD i ml0)).length then kr ([], 2, ()) else again (((i + 1 : Nat) : Int), acc ++ mailI (l.getD i ml0), ()) := by
  unfold mail_Print.s0
  simp only [decide_eq_true_eq]
  rw [if_pos (by omega), gate_pos (inR_of (by omega) (by omega)), getI_nat, w64 (by omega) (by omega)]
  generalize l.getD i ml0 = m at *
  obtain ⟨fr, tm, id, rf, gn, ab, tx⟩ := m
  obtain ⟨h1, h2, h3, h4, h5, h6⟩ := hf
  simp only at h1 h2 h3 h4 h5 h6 ⊢
  have hlf := mlines_flat tx
  have hll := mlines_len tx
  rw [g_dec (by simp only [List.length_append, List.length_cons, List.length_nil]; omega), g_dec (by simp only [List.length_append, List.length_cons, List.length_nil]; omega), g_dec (by simp only [List.length_append, List.length_cons, List.length_nil]; omega), g_dec (by simp only [List.length_append, List.length_cons, List.length_nil]; omega)]
  rw [bindO_of (show itoaF tm = some (itoaI tm) from rfl)]
  rw [g_dec (by simp only [List.length_append, List.length_cons, List.length_nil]; omega), g_dec (by simp only [List.length_append, List.length_cons, List.length_nil]; omega), g_room (by simp only [List.length_append, List.length_cons, List.length_nil]; omega) (by simp only [List.length_append, List.length_cons, List.length_nil]; omega)]
  have e1 : (if (!decide (rf = [])) = true then
      gate (decide ([114, 101, 102, 32].length + rf.length ≤ 140737488355328)) (gate (decide (([114, 101, 102, 32] ++ rf).length + [10].length ≤ 140737488355328))
        (gate (roomFor ((acc ++ (([109, 97, 105, 108, 32] ++ id ++ [32] ++ fr ++ [32] ++ itoaI tm) ++ [10])).length + (([114, 101, 102, 32] ++ rf) ++ [10]).length) 1)
          (some ((acc ++ (([109, 97, 105, 108, 32] ++ id ++ [32] ++ fr ++ [32] ++ itoaI tm) ++ [10])) ++ (([114, 101, 102, 32] ++ rf) ++ [10]), fr, tm, id, rf, gn, ab, tx, ())) none) none) none
      else some (acc ++ (([109, 97, 105, 108, 32] ++ id ++ [32] ++ fr ++ [32] ++ itoaI tm) ++ [10]), fr, tm, id, rf, gn, ab, tx, ()) : Option (List Int × List Int × Int × List Int × List Int × Bool × List Int × List Int × Unit)) =
      some (acc ++ (headI (fr, tm, id, rf, gn, ab, tx) ++ refI (fr, tm, id, rf, gn, ab, tx)), fr, tm, id, rf, gn, ab, tx, ()) := by
    unfold headI refI
    by_cases hr : rf = []
    · simp only [hr, decide_true, Bool.not_true, Bool.false_eq_true, if_false, if_true, List.append_nil]
    · rw [if_pos (by rw [decide_eq_false hr]; rfl), if_neg hr]
      rw [g_dec (by simp only [List.length_append, List.length_cons, List.length_nil]; omega), g_dec (by simp only [List.length_append, List.length_cons, List.length_nil]; omega), g_room (by simp only [List.length_append, List.length_cons, List.length_nil]; omega) (by simp only [List.length_append, List.length_cons, List.length_nil]; omega)]
      simp only [List.append_assoc]
  rw [bindO_of e1]
  have hh : (headI (fr, tm, id, rf, gn, ab, tx) ++ refI (fr, tm, id, rf, gn, ab, tx)).length ≤ 4294967400 := by
    unfold headI refI
    split <;> simp only [List.length_append, List.length_cons, List.length_nil] <;> omega
  generalize hhd : headI (fr, tm, id, rf, gn, ab, tx) ++ refI (fr, tm, id, rf, gn, ab, tx) = hd at *
  have e2 : (if gn = true then gate (roomFor ((acc ++ hd).length + [103, 111, 110, 101, 10].length) 1) (some ((acc ++ hd) ++ [103, 111, 110, 101, 10], fr, tm, id, rf, gn, ab, tx, ())) none
      else some (acc ++ hd, fr, tm, id, rf, gn, ab, tx, ()) : Option (List Int × List Int × Int × List Int × List Int × Bool × List Int × List Int × Unit)) = some (acc ++ (hd ++ goneI (fr, tm, id, rf, gn, ab, tx)), fr, tm, id, rf, gn, ab, tx, ()) := by
    unfold goneI
    cases gn with
    | true =>
      rw [if_pos rfl, if_pos rfl, g_room (by simp only [List.length_append, List.length_cons, List.length_nil]; omega) (by simp only [List.length_append, List.length_cons, List.length_nil]; omega)]
      simp only [List.append_assoc]
    | false => simp only [Bool.false_eq_true, if_false, List.append_nil]
  simp only
  rw [bindO_of e2]
  have hg : (goneI (fr, tm, id, rf, gn, ab, tx)).length ≤ 5 := by unfold goneI; split <;> simp
  generalize hgn : goneI (fr, tm, id, rf, gn, ab, tx) = g at *
  simp only
  rw [g_dec (by simp only [List.length_append, List.length_cons, List.length_nil]; omega), g_dec (by simp only [List.length_append, List.length_cons, List.length_nil]; omega), g_room (by simp only [List.length_append, List.length_cons, List.length_nil]; omega) (by simp only [List.length_append, List.length_cons, List.length_nil]; omega)]
  rw [bindO_of (show linesGo tx = some (linesI tx) from rfl), dotsLoop N s _ _ (linesI tx) _ (mlines_ne tx) (by rw [hlf]; simp only [List.length_append, List.length_cons, List.length_nil]; omega)]
  have hb := bodyI_len tx
  have ebd : ((linesI tx).map dotI).flatten = bodyI tx := rfl
  simp only [ebd]
  rw [g_room (by simp only [List.length_append, List.length_cons, List.length_nil]; omega) (by simp only [List.length_append, List.length_cons, List.length_nil]; omega)]
  have em : acc ++ (hd ++ g) ++ ([97, 98, 111, 117, 116, 32] ++ ab ++ [10]) ++ bodyI tx ++ [46, 10] = acc ++ mailI (fr, tm, id, rf, gn, ab, tx) := by
    unfold mailI topI aboutI
    rw [hhd, hgn]
    simp only [List.append_assoc]
  simp only [em]
  by_cases hbig : 65536 < (acc ++ mailI (fr, tm, id, rf, gn, ab, tx)).length
  · rw [if_pos (by omega), if_pos hbig]
  · rw [if_neg (by omega), if_neg hbig]
    rfl

theorem mbox_take_le (l : List Ml) (k : Nat) : (mboxI (l.take k)).length ≤ (mboxI l).length := by
  conv => rhs; rw [← List.take_append_drop k l]
  unfold mboxI
  rw [List.flatMap_append, List.length_append]
  omega

theorem mbox_succ (l : List Ml) {i : Nat} (h : i < l.length) : mboxI (l.take (i + 1)) = mboxI (l.take i) ++ mailI (l.getD i ml0) := by
  unfold mboxI
  rw [List.take_add_one, List.flatMap_append, List.getElem?_eq_getElem h, List.getD_eq_getElem?_getD, List.getElem?_eq_getElem h]
  simp

theorem print_ok (N : Nat) (l : List Ml) (hc : mail_Check N l = some 0) (hl : l.length ≤ 60) (hf : ∀ e ∈ l, Fits e) (hN : 1048577 < N) : mail_Print N l = some (if 65536 < (mboxI l).length then ([], 2) else (mboxI l, 0)) := by
  unfold mail_Print
  rw [bindO_of hc, if_neg (by decide)]
  refine iter_rule (fun v => ∃ i : Nat, v = ((i : Int), mboxI (l.take i), ()) ∧ i ≤ l.length ∧ (mboxI (l.take i)).length ≤ 65536) (fun v => l.length - v.1.toNat)
    (fun o => o = some (if 65536 < (mboxI l).length then ([], 2) else (mboxI l, 0))) ?_ N _ ⟨0, rfl, Nat.zero_le _, by simp [mboxI]⟩ (by simp only; omega)
  rintro v again ⟨i, rfl, hi, hle⟩ hag
  by_cases hlt : i < l.length
  · rw [print_round N _ _ _ _ l i _ hlt hl (hf _ (ml_mem hlt)) hle, ← mbox_succ l hlt]
    by_cases hbig : 65536 < (mboxI (l.take (i + 1))).length
    · rw [if_pos hbig, if_pos (Nat.lt_of_lt_of_le hbig (mbox_take_le l _))]
    · rw [if_neg hbig]
      exact hag _ ⟨i + 1, rfl, by omega, by omega⟩ (by simp only; omega)
  · have : i = l.length := by omega
    subst this
    rw [List.take_length] at hle ⊢
    unfold mail_Print.s0
    simp only [decide_eq_true_eq]
    rw [if_neg (by omega), if_neg (by omega)]

theorem print_bad (N : Nat) (l : List Ml) {r : Int} (hc : mail_Check N l = some r) (hr : r ≠ 0) : mail_Print N l = some ([], r) := by
  unfold mail_Print
  rw [bindO_of hc, if_pos (by rw [decide_eq_false hr]; rfl)]

theorem mails_true (N : Nat) (hN : 1048577 < N) : wracklaw2_mails N = some true := by
  unfold wracklaw2_mails
  have hs : ∀ e ∈ ([([97], ((5 : Int), ([98], ([], (false, ([], []))))))] : List Ml), Small e := by
    intro e he
    simp only [List.mem_singleton] at he
    subst he
    unfold Small
    decide
  obtain ⟨r, h1, h2⟩ := mcheck_res N [([97], ((5 : Int), ([98], ([], (false, ([], []))))))] hs hN
  have hr : r = 0 := resM_unique h2 (Or.inr ⟨by decide, Or.inr ⟨fun j hj => by
    have : j = 0 := by simp at hj; omega
    subst this
    decide, rfl⟩⟩)
  subst hr
  have hf : ∀ e ∈ ([([97], ((5 : Int), ([98], ([], (false, ([], []))))))] : List Ml), Fits e := fun e he => fits_of ((resM_zero h2).2 e he) (hs e he)
  have hp := print_ok N _ h1 (by decide) hf hN
  simp only
  rw [bindO_of hp]
  have em : mboxI [([97], ((5 : Int), ([98], ([], (false, ([], []))))))] = [109, 97, 105, 108, 32, 98, 32, 97, 32, 53, 10, 97, 98, 111, 117, 116, 32, 10, 46, 10] := by decide +kernel
  rw [em]
  rfl

theorem dotPre_eq (N : Nat) (p : List Int) : strings_HasPrefix N p [46] = some (decide (p.take 1 = [46])) := by
  have key : stringslite_HasPrefix N p [46] = some (decide (p.take 1 = [46])) := by
    unfold stringslite_HasPrefix
    simp only [decide_eq_true_eq, List.length_cons, List.length_nil]
    cases p with
    | nil => rfl
    | cons x r =>
      rw [if_pos (by simp only [List.length_cons]; omega), gate_pos (bounds_of (by omega) (by omega) (by simp only [List.length_cons]; omega))]
      have e : cut (x :: r) (0 : Int) ((0 + 1 : Nat) : Int) = (x :: r).take 1 := cut_nat (x :: r) 0 1 (by omega)
      simp only [e, bindO]
  unfold strings_HasPrefix
  rw [bindO_of key]

theorem dotI_pre (p : List Int) : dotI p = if p.take 1 = [46] then [46] ++ p else p := by
  cases p with
  | nil => rfl
  | cons x r =>
    simp only [dotI, List.take_succ_cons, List.take_zero, List.cons.injEq, and_true]
    rfl

theorem textLoop {R : Type} (N : Nat) (s : R) (k0 : (List (List Int) × Unit) → R) (b lines : List (List Int)) (hb : b.length ≤ 100) (hl : lines.length ≤ 1048576) (hp : ∀ p ∈ lines, p.length ≤ 1048576) (n : Nat) (hn : lines.length < n) :
    iter (wrackref2_MailText.s0 N s k0 ((lines.length : Int), ())) s n (b, lines, (0 : Int), ()) = k0 (b ++ lines.map dotI, ()) := by
  refine iter_rule (fun v => ∃ i : Nat, v = (b ++ (lines.take i).map dotI, lines, (i : Int), ()) ∧ i ≤ lines.length) (fun v => lines.length - v.2.2.1.toNat)
    (fun o => o = k0 (b ++ lines.map dotI, ())) ?_ n _ ⟨0, by simp, Nat.zero_le _⟩ (by simp only; omega)
  rintro v again ⟨i, rfl, hi⟩ hag
  unfold wrackref2_MailText.s0
  simp only [decide_eq_true_eq]
  by_cases hlt : i < lines.length
  · have hm : lines.getD i [] ∈ lines := by
      rw [List.getD_eq_getElem?_getD, List.getElem?_eq_getElem hlt]
      exact List.getElem_mem hlt
    have hpm := hp _ hm
    rw [if_pos (by omega), gate_pos (inR_of (by omega) (by omega)), gate_pos (inR_of (by omega) (by omega)), getI_nat, bindO_of (dotPre_eq N _)]
    have hd := dotI_pre (lines.getD i [])
    have hs : lines.take (i + 1) = lines.take i ++ [lines.getD i []] := by
      rw [List.take_add_one, List.getElem?_eq_getElem hlt, List.getD_eq_getElem?_getD, List.getElem?_eq_getElem hlt]
      rfl
    generalize lines.getD i [] = p at *
    have e1 : (if decide (p.take 1 = [46]) = true then gate (decide ([46].length + p.length ≤ 140737488355328)) (some (b ++ (lines.take i).map dotI, [46] ++ p, lines, ())) none else some (b ++ (lines.take i).map dotI, p, lines, ()) : Option (List (List Int) × List Int × List (List Int) × Unit)) = some (b ++ (lines.take i).map dotI, dotI p, lines, ()) := by
      by_cases h : p.take 1 = [46]
      · rw [if_pos h] at hd
        rw [if_pos (by simpa using h), g_dec (by simp only [List.length_cons, List.length_nil]; omega), hd]
      · rw [if_neg h] at hd
        rw [if_neg (by simpa using h), hd]
    rw [bindO_of e1]
    simp only
    have hlen : (b ++ (lines.take i).map dotI).length = b.length + i := by simp; omega
    rw [g_room (by simp only [hlen, List.length_cons, List.length_nil]; omega) (by simp only [hlen, List.length_cons, List.length_nil]; omega), w64 (by omega) (by omega)]
    refine hag _ ⟨i + 1, ?_, by omega⟩ (by simp only; omega)
    rw [hs, List.map_append, List.append_assoc]
    rfl
  · rw [if_neg (by omega)]
    have : i = lines.length := by omega
    subst this
    rw [List.take_length]

theorem dropLast_cut (ls : List (List Int)) (h : ls ≠ []) (hl : ls.length ≤ 1048577) : cut ls (0 : Int) (ls.dropLast.length : Int) = ls.dropLast ∧ IntKind.wrap .i64 ((ls.length : Int) - 1) = (ls.dropLast.length : Int) := by
  have hpos := List.length_pos_iff.2 h
  have e : IntKind.wrap .i64 ((ls.length : Int) - 1) = ((ls.length - 1 : Nat) : Int) := by rw [w64 (by omega) (by omega)]; omega
  rw [e, List.length_dropLast, mcut_take]
  exact ⟨(List.dropLast_eq_take).symm, rfl⟩

theorem text_eq (N : Nat) (m : Ml) (hf : Fits m) (he : endsB m.2.2.2.2.2.2 = true) (hN : 1048577 < N) : wrackref2_MailText N m = some (mailI m) := by
  have hml := mailI_len hf
  obtain ⟨fr, tm, id, rf, gn, ab, tx⟩ := m
  obtain ⟨h1, h2, h3, h4, h5, h6⟩ := hf
  simp only at h1 h2 h3 h4 h5 h6 he ⊢
  unfold wrackref2_MailText
  simp only
  rw [bindO_of (show itoaF tm = some (itoaI tm) from rfl)]
  have ej : joinI [32] [[109, 97, 105, 108], id, fr, itoaI tm] = [109, 97, 105, 108, 32] ++ id ++ [32] ++ fr ++ [32] ++ itoaI tm := by
    rw [joinI_cons, joinI_cons, joinI_cons]
    simp [joinI, List.intercalate]
  have hj : joinF [[109, 97, 105, 108], id, fr, itoaI tm] [32] = some ([109, 97, 105, 108, 32] ++ id ++ [32] ++ fr ++ [32] ++ itoaI tm) := by
    unfold joinF
    rw [ej, if_pos ⟨by simp only [List.length_append, List.length_cons, List.length_nil]; omega, by simp⟩]
  rw [bindO_of hj]
  generalize hhd : [109, 97, 105, 108, 32] ++ id ++ [32] ++ fr ++ [32] ++ itoaI tm = hd
  have e1 : (if (!decide (rf = [])) = true then gate (decide ([114, 101, 102, 32].length + rf.length ≤ 140737488355328)) (gate (roomFor ([hd].length + [([114, 101, 102, 32] ++ rf)].length) 16) (some ([hd] ++ [([114, 101, 102, 32] ++ rf)], fr, tm, id, rf, gn, ab, tx, ())) none) none
      else some ([hd], fr, tm, id, rf, gn, ab, tx, ()) : Option (List (List Int) × List Int × Int × List Int × List Int × Bool × List Int × List Int × Unit)) = some ([hd] ++ (if rf = [] then [] else [[114, 101, 102, 32] ++ rf]), fr, tm, id, rf, gn, ab, tx, ()) := by
    by_cases hr : rf = []
    · simp only [hr, decide_true, Bool.not_true, Bool.false_eq_true, if_false, if_true, List.append_nil]
    · rw [if_pos (by rw [decide_eq_false hr]; rfl), if_neg hr, g_dec (by simp only [List.length_cons, List.length_nil]; omega), g_room (by simp) (by simp)]
  rw [bindO_of e1]
  have hrl : (if rf = [] then [] else [[114, 101, 102, 32] ++ rf] : List (List Int)).length ≤ 1 := by split <;> simp
  have hrf : ((if rf = [] then [] else [[114, 101, 102, 32] ++ rf] : List (List Int)).map (· ++ [10])).flatten = refI (fr, tm, id, rf, gn, ab, tx) := by unfold refI; split <;> simp
  generalize (if rf = [] then [] else [[114, 101, 102, 32] ++ rf] : List (List Int)) = rs at *
  simp only
  have e2 : (if gn = true then gate (roomFor (([hd] ++ rs).length + [[103, 111, 110, 101]].length) 16) (some (([hd] ++ rs) ++ [[103, 111, 110, 101]], fr, tm, id, rf, gn, ab, tx, ())) none
      else some ([hd] ++ rs, fr, tm, id, rf, gn, ab, tx, ()) : Option (List (List Int) × List Int × Int × List Int × List Int × Bool × List Int × List Int × Unit)) = some (([hd] ++ rs) ++ (if gn = true then [[103, 111, 110, 101]] else []), fr, tm, id, rf, gn, ab, tx, ()) := by
    cases gn with
    | true => rw [if_pos rfl, if_pos rfl, g_room (by simp only [List.length_append, List.length_cons, List.length_nil]; omega) (by simp only [List.length_append, List.length_cons, List.length_nil]; omega)]
    | false => simp only [Bool.false_eq_true, if_false, List.append_nil]
  rw [bindO_of e2]
  have hgl : (if gn = true then [[103, 111, 110, 101]] else [] : List (List Int)).length ≤ 1 := by split <;> simp
  have hgf : ((if gn = true then [[103, 111, 110, 101]] else [] : List (List Int)).map (· ++ [10])).flatten = goneI (fr, tm, id, rf, gn, ab, tx) := by unfold goneI; split <;> simp
  generalize (if gn = true then [[103, 111, 110, 101]] else [] : List (List Int)) = gs at *
  simp only
  rw [g_dec (by simp only [List.length_cons, List.length_nil]; omega), g_room (by simp only [List.length_append, List.length_cons, List.length_nil]; omega) (by simp only [List.length_append, List.length_cons, List.length_nil]; omega)]
  have hsp : strings_Split N tx [10] = some (splitI 10 tx) := by
    unfold strings_Split
    have : genSplitF tx [10] 0 (-1) = some (splitI 10 tx) := by
      simp only [genSplitF]
      rw [if_pos ⟨trivial, trivial, by omega⟩]
    rw [bindO_of this]
  rw [bindO_of hsp]
  obtain ⟨z1, z2⟩ := splitI_len 10 tx
  have hne := splitI_ne 10 tx
  obtain ⟨c1, c2⟩ := dropLast_cut (splitI 10 tx) hne (by omega)
  have hde := dots_ends tx he
  have hlines : ∀ p ∈ (splitI 10 tx).dropLast, p.length ≤ 1048576 := fun p hp => Nat.le_trans (z2 p (List.dropLast_subset _ hp)) h5
  have hll : (splitI 10 tx).dropLast.length ≤ 1048576 := by rw [List.length_dropLast]; omega
  simp only [c2, c1]
  rw [gate_pos (bounds_of (by omega) (by omega) (by rw [List.length_dropLast]; omega))]
  rw [show ((splitI 10 tx).dropLast.length : Int) - 0 = ((splitI 10 tx).dropLast.length : Int) by omega]
  generalize (splitI 10 tx).dropLast = lines at *
  rw [textLoop N none _ _ lines (by simp only [List.length_append, List.length_cons, List.length_nil]; omega) hll hlines N (by omega)]
  simp only
  have hfin : joinI [10] (([hd] ++ rs ++ gs ++ [[97, 98, 111, 117, 116, 32] ++ ab] ++ lines.map dotI) ++ [[46], []]) = mailI (fr, tm, id, rf, gn, ab, tx) := by
    rw [show (([hd] ++ rs ++ gs ++ [[97, 98, 111, 117, 116, 32] ++ ab] ++ lines.map dotI) ++ [[46], []] : List (List Int)) = ([hd] ++ rs ++ gs ++ [[97, 98, 111, 117, 116, 32] ++ ab] ++ lines.map dotI ++ [[46]]) ++ [[]] by simp, join_end]
    simp only [List.map_append, List.flatten_append, hrf, hgf]
    unfold mailI topI headI aboutI bodyI
    rw [hde]
    simp only [← hhd, List.map_cons, List.map_nil, List.flatten_cons, List.flatten_nil, List.append_nil, List.append_assoc]
    rfl
  have hln : ([hd] ++ rs ++ gs ++ [[97, 98, 111, 117, 116, 32] ++ ab] ++ lines.map dotI).length ≤ 1048580 := by simp only [List.length_append, List.length_cons, List.length_nil, List.length_map]; omega
  rw [g_room (by simp only [List.length_append, List.length_cons, List.length_nil, List.length_map] at hln ⊢; omega) (by simp only [List.length_append, List.length_cons, List.length_nil, List.length_map] at hln ⊢; omega)]
  have hjf : joinF (([hd] ++ rs ++ gs ++ [[97, 98, 111, 117, 116, 32] ++ ab] ++ lines.map dotI) ++ [[46], []]) [10] = some (mailI (fr, tm, id, rf, gn, ab, tx)) := by
    unfold joinF
    rw [hfin, if_pos ⟨by omega, by rw [List.length_append]; simp only [List.length_cons, List.length_nil]; omega⟩]
  rw [bindO_of hjf]

theorem wantLoop (N : Nat) (K : (List Int × Unit) → Option Bool) (a : List Int) (b : Int) (l : List Ml) (hl : l.length ≤ 60) (hf : ∀ e ∈ l, Fits e ∧ endsB e.2.2.2.2.2.2 = true) (hN : 1048577 < N) (n : Nat) (hn : l.length < n) :
    iter (wracklaw2_MailPrints.s0 N none K (a, b, 0, l, (l.length : Int), ())) none n ([], (0 : Int), ()) = K (mboxI l, ()) := by
  have hlen : ∀ k, k ≤ l.length → (mboxI (l.take k)).length ≤ 4298113134 * k := by
    intro k
    induction k with
    | zero => intro _; simp [mboxI]
    | succ k ih =>
      intro hk
      rw [mbox_succ l (by omega), List.length_append]
      have := mailI_len (hf _ (ml_mem (show k < l.length by omega))).1
      have := ih (by omega)
      omega
  refine iter_rule (fun v => ∃ i : Nat, v = (mboxI (l.take i), (i : Int), ()) ∧ i ≤ l.length) (fun v => l.length - v.2.1.toNat) (fun o => o = K (mboxI l, ())) ?_ n _ ⟨0, by simp [mboxI], Nat.zero_le _⟩ (by simp only; omega)
  rintro v again ⟨i, rfl, hi⟩ hag
  unfold wracklaw2_MailPrints.s0
  simp only [decide_eq_true_eq]
  by_cases hlt : i < l.length
  · obtain ⟨g1, g2⟩ := hf _ (ml_mem hlt)
    rw [if_pos (by omega), gate_pos (inR_of (by omega) (by omega)), getI_nat, if_pos trivial, bindO_of (text_eq N _ g1 g2 hN)]
    have h1 := hlen i hi
    have h2 := mailI_len g1
    rw [g_dec (by omega), w64 (by omega) (by omega), ← mbox_succ l hlt]
    exact hag _ ⟨i + 1, rfl, by omega⟩ (by simp only; omega)
  · rw [if_neg (by omega)]
    have : i = l.length := by omega
    subst this
    rw [List.take_length]

theorem wantLoop' (N : Nat) (K : (List Int × Unit) → Option Bool) (a : List Int) (b r : Int) (hr : r ≠ 0) (l : List Ml) (hl : l.length < 9223372036854775807) (n : Nat) (hn : l.length < n) :
    iter (wracklaw2_MailPrints.s0 N none K (a, b, r, l, (l.length : Int), ())) none n ([], (0 : Int), ()) = K ([], ()) := by
  refine iter_rule (fun v => ∃ i : Nat, v = ([], (i : Int), ()) ∧ i ≤ l.length) (fun v => l.length - v.2.1.toNat) (fun o => o = K ([], ())) ?_ n _ ⟨0, rfl, Nat.zero_le _⟩ (by simp only; omega)
  rintro v again ⟨i, rfl, hi⟩ hag
  unfold wracklaw2_MailPrints.s0
  simp only [decide_eq_true_eq]
  by_cases hlt : i < l.length
  · rw [if_pos (by omega), gate_pos (inR_of (by omega) (by omega)), if_neg hr, w64 (by omega) (by omega)]
    exact hag _ ⟨i + 1, rfl, by omega⟩ (by simp only; omega)
  · rw [if_neg (by omega)]

theorem mailPrints_true (N : Nat) (l : List Ml) (hs : ∀ e ∈ l, Small e) (hl : l.length ≤ 1048576) (hN : 1048577 < N) : wracklaw2_MailPrints N l = some true := by
  obtain ⟨r, c1, c2⟩ := mcheck_res N l hs hN
  obtain ⟨q, d1, d2⟩ := merr_res N l hs hN
  have hq := resM_unique c2 d2
  subst hq
  unfold wracklaw2_MailPrints
  by_cases hr : r = 0
  · subst hr
    obtain ⟨l60, hone⟩ := resM_zero c2
    have hf : ∀ e ∈ l, Fits e ∧ endsB e.2.2.2.2.2.2 = true := fun e he => ⟨fits_of (hone e he) (hs e he), (oneI_text (hone e he)).2.2.2.2.2.2.1⟩
    rw [bindO_of (print_ok N l c1 l60 (fun e he => (hf e he).1) hN), bindO_of d1, bindO_of (mails_true N hN), c1]
    simp only [bindO, Bool.not_true, Bool.false_eq_true, if_false, decide_true]
    rw [wantLoop N _ _ _ l l60 hf hN N (by omega)]
    simp only [decide_eq_true_eq]
    by_cases hbig : 65536 < (mboxI l).length
    · simp only [if_pos hbig]
      rw [if_pos (by omega)]
      rfl
    · simp only [if_neg hbig]
      rw [if_neg (by omega)]
      simp
  · rw [bindO_of (print_bad N l c1 hr), bindO_of d1, bindO_of (mails_true N hN), c1]
    simp only [bindO, Bool.not_true, Bool.false_eq_true, if_false, decide_true]
    rw [wantLoop' N _ _ _ r hr l (by omega) N (by omega)]
    simp [bindO]

end Go.Proofs.YtnklmlnkiepdiaaDoor
