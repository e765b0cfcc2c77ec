/-
  PLAIN: all plain texts that mailThreads_true needs, in one.
-/
import Derived.Test.YtnklmlnkiepdiaaGreatDoorAbPlain
import Derived.Test.YtnklmlnkiepdiaaGreatDoorPu
import Derived.Test.YtnklmlnkiepdiaaGreatDoorAbIterFn
import Derived.Test.YtnklmlnkiepdiaaGreatDoorAbItoaFn
import Derived.Test.YtnklmlnkiepdiaaGreatDoorAbSortFn
set_option linter.unusedVariables false
set_option linter.unusedSimpArgs false
namespace Go.Proofs.YtnklmlnkiepdiaaGreatDoor
open Go Go.Ab

theorem splitI_ne (c : Int) : ∀ l, splitI c l ≠ [] := by
  intro l
  cases l with
  | nil => simp [splitI]
  | cons x r =>
    simp only [splitI]
    split
    · simp
    · split <;> simp

def nameCh (x : Int) : Bool := decide (97 ≤ x ∧ x ≤ 122) || decide (48 ≤ x ∧ x ≤ 57) || decide (x = 45)

def nameB (s : List Int) : Bool := match s with
  | [] => false
  | x :: r => decide (s.length ≤ 12) && (decide (97 ≤ x ∧ x ≤ 122) && s.all nameCh)

theorem named_eq (N : Nat) (s : List Int) (hs : s.length ≤ 1048576) (hN : 1048577 < N) : fs_Named N s = some (nameB s) := by
  unfold fs_Named
  cases s with
  | nil => rfl
  | cons x r =>
    have e0 : getI 0 (x :: r) (0 : Int) = x := rfl
    rw [if_neg (by simp)]
    by_cases hl : (x :: r).length ≤ 12
    · rw [if_neg (by simp only [decide_eq_true_eq]; omega), gate_pos (inR_of (by omega) (by simp)), gate_pos (inR_of (by omega) (by simp)), e0]
      simp only [decide_eq_true_eq]
      by_cases h1 : x < 97
      · rw [if_pos h1]
        have : nameB (x :: r) = false := by
          simp only [nameB]
          have : decide (97 ≤ x ∧ x ≤ 122) = false := by simp; omega
          rw [this]; simp
        rw [this]; rfl
      · rw [if_neg h1]
        by_cases h2 : x > 122
        · have : nameB (x :: r) = false := by
            simp only [nameB]
            have : decide (97 ≤ x ∧ x ≤ 122) = false := by simp; omega
            rw [this]; simp
          rw [this]
          simp [bindO, h2]
        · have hx : decide (97 ≤ x ∧ x ≤ 122) = true := by simp; omega
          have hnb : nameB (x :: r) = (x :: r).all nameCh := by
            simp only [nameB]
            rw [hx]
            simp only [Bool.true_and]
            rw [show decide ((x :: r).length ≤ 12) = true by simpa using hl]
            simp
          rw [hnb]
          simp only [bindO, h2, decide_false]
          rw [if_neg (by decide)]
          generalize hy : x :: r = y at *
          refine iter_rule (fun v => ∃ i : Nat, v = ((i : Int), ()) ∧ i ≤ y.length ∧ ∀ j : Nat, j < i → nameCh (y.getD j 0) = true) (fun v => y.length - v.1.toNat)
            (fun o => o = some (y.all nameCh)) ?_ N _ ⟨0, rfl, Nat.zero_le _, fun j hj => absurd hj (Nat.not_lt_zero _)⟩ (by simp only; omega)
          rintro v again ⟨i, rfl, hi, hall⟩ hag
          unfold fs_Named.s0
          simp only [decide_eq_true_eq]
          by_cases hlt : i < y.length
          · rw [if_pos (by omega), gate_pos (inR_of (by omega) (by omega)), getI_nat]
            generalize hz : y.getD i 0 = z
            have body : (if z < 97 then (if z < 48 then some (!decide (z = 45)) else if z > 57 then some (!decide (z = 45)) else some false) else if z > 122 then (if z < 48 then some (!decide (z = 45)) else if z > 57 then some (!decide (z = 45)) else some false) else some false : Option Bool) = some (!nameCh z) := by
              unfold nameCh
              repeat' split
              all_goals
                simp only [Option.some.injEq, Bool.not_or, Bool.false_eq, Bool.and_eq_false_imp]
                rw [Bool.eq_iff_iff]
                simp
                try omega
            rw [body]
            simp only [bindO]
            cases hc : nameCh z with
            | true =>
              simp only [Bool.not_true, Bool.false_eq_true, if_false]
              rw [w64 (by omega) (by omega)]
              refine hag _ ⟨i + 1, by simp, by omega, fun j hj => ?_⟩ (by simp only; omega)
              rcases Nat.lt_or_eq_of_le (Nat.le_of_lt_succ hj) with h | h
              · exact hall j h
              · subst h; rw [hz]; exact hc
            | false =>
              simp only [Bool.not_false, if_true, Option.some.injEq, Bool.false_eq]
              rw [List.all_eq_false]
              refine ⟨y[i], List.getElem_mem hlt, ?_⟩
              rw [List.getD_eq_getElem?_getD, List.getElem?_eq_getElem hlt] at hz
              simp only [Option.getD_some] at hz
              rw [hz, hc]
              simp
          · rw [if_neg (by omega)]
            simp only [Option.some.injEq, Bool.true_eq, List.all_eq_true]
            intro z hz
            obtain ⟨j, hj, rfl⟩ := List.getElem_of_mem hz
            have := hall j (by omega)
            rw [List.getD_eq_getElem?_getD, List.getElem?_eq_getElem hj] at this
            exact this
    · rw [if_pos (by simp only [decide_eq_true_eq]; omega)]
      have : nameB (x :: r) = false := by
        simp only [nameB]
        have : decide ((x :: r).length ≤ 12) = false := by simpa using hl
        rw [this]; simp
      rw [this]; rfl

theorem dropWhile_nil {p : Int → Bool} : ∀ l : List Int, l.dropWhile p = [] ↔ ∀ x ∈ l, p x = true := by
  intro l
  induction l with
  | nil => simp
  | cons x r ih =>
    simp only [List.dropWhile_cons, List.mem_cons, forall_eq_or_imp]
    cases h : p x with
    | true => simp [ih]
    | false => simp

theorem trimI_nil (cs l : List Int) : trimI cs l = [] ↔ ∀ x ∈ l, cs.contains x = true := by
  have hd : ∀ m : List Int, (∀ x ∈ m.dropWhile (cs.contains ·), cs.contains x = true) → m.dropWhile (cs.contains ·) = [] := by
    intro m
    induction m with
    | nil => intro _; rfl
    | cons x r ih =>
      intro h
      rw [List.dropWhile_cons] at h ⊢
      cases hc : cs.contains x with
      | true => rw [hc] at h; simp only [if_true] at h ⊢; exact ih h
      | false =>
        rw [hc] at h
        simp only [Bool.false_eq_true, if_false, List.mem_cons, forall_eq_or_imp] at h
        rw [hc] at h
        exact absurd h.1 (by decide)
  unfold trimI
  rw [dropWhile_nil]
  constructor
  · intro h
    have h1 := hd l.reverse (fun x hx => h x (by simpa using hx))
    rw [dropWhile_nil] at h1
    exact fun x hx => h1 x (by simpa using hx)
  · intro h x hx
    have h1 : x ∈ l.reverse.dropWhile (cs.contains ·) := by simpa using hx
    exact h x (by simpa using (List.dropWhile_sublist _).mem h1)

theorem idxI_ge (c : Int) : ∀ l : List Int, -1 ≤ idxI c l ∧ (0 ≤ idxI c l ↔ c ∈ l) := by
  intro l
  induction l with
  | nil => simp [idxI]
  | cons x r ih =>
    obtain ⟨h1, h2⟩ := ih
    simp only [idxI, List.mem_cons]
    by_cases h : x = c
    · rw [if_pos h]
      simp [h]
    · rw [if_neg h]
      by_cases h3 : idxI c r = -1
      · rw [if_pos h3]
        refine ⟨by omega, ?_⟩
        constructor
        · intro h4; omega
        · intro h4
          rcases h4 with h4 | h4
          · exact absurd h4.symm h
          · have := h2.2 h4; omega
      · rw [if_neg h3]
        refine ⟨by omega, ?_⟩
        constructor
        · intro h4; exact Or.inr (h2.1 (by omega))
        · intro h4
          rcases h4 with h4 | h4
          · exact absurd h4.symm h
          · have := h2.2 h4; omega

theorem letter_mem (x : Int) : x ∈ ([97, 98, 99, 100, 101, 102, 103, 104, 105, 106, 107, 108, 109, 110, 111, 112, 113, 114, 115, 116, 117, 118, 119, 120, 121, 122] : List Int) ↔ 97 ≤ x ∧ x ≤ 122 := by
  simp only [List.mem_cons, List.not_mem_nil, or_false]
  omega

theorem nameCh_mem (x : Int) : ([97, 98, 99, 100, 101, 102, 103, 104, 105, 106, 107, 108, 109, 110, 111, 112, 113, 114, 115, 116, 117, 118, 119, 120, 121, 122, 48, 49, 50, 51, 52, 53, 54, 55, 56, 57, 45] : List Int).contains x = nameCh x := by
  rw [Bool.eq_iff_iff]
  simp only [List.contains_eq_mem, decide_eq_true_eq, nameCh, Bool.or_eq_true, List.mem_cons, List.not_mem_nil, or_false]
  omega

theorem word_eq (N : Nat) (s : List Int) : wrackref2_Word N s = some (nameB s) := by
  unfold wrackref2_Word
  cases s with
  | nil => rfl
  | cons x r =>
    simp only [decide_eq_true_eq]
    rw [if_pos (by simp)]
    by_cases hl : ((x :: r).length : Int) ≤ 12
    · rw [if_pos hl, gate_pos (bounds_of (by omega) (by omega) (by simp only [List.length_cons]; omega))]
      have ec : cut (x :: r) (0 : Int) (1 : Int) = [x] := rfl
      have hcon : strings_Contains N [97, 98, 99, 100, 101, 102, 103, 104, 105, 106, 107, 108, 109, 110, 111, 112, 113, 114, 115, 116, 117, 118, 119, 120, 121, 122] [x] = some (decide (97 ≤ x ∧ x ≤ 122)) := by
        unfold strings_Contains
        simp only [indexF, bindO, Option.some.injEq, ge_iff_le]
        rw [Bool.eq_iff_iff]
        simp only [decide_eq_true_eq]
        rw [(idxI_ge x _).2, letter_mem]
      rw [ec, bindO_of hcon]
      by_cases hx : 97 ≤ x ∧ x ≤ 122
      · rw [if_pos (by simpa using hx)]
        have ht : trimF (x :: r) [97, 98, 99, 100, 101, 102, 103, 104, 105, 106, 107, 108, 109, 110, 111, 112, 113, 114, 115, 116, 117, 118, 119, 120, 121, 122, 48, 49, 50, 51, 52, 53, 54, 55, 56, 57, 45] = some (trimI [97, 98, 99, 100, 101, 102, 103, 104, 105, 106, 107, 108, 109, 110, 111, 112, 113, 114, 115, 116, 117, 118, 119, 120, 121, 122, 48, 49, 50, 51, 52, 53, 54, 55, 56, 57, 45] (x :: r)) := by
          unfold trimF
          rw [if_pos (by decide)]
        rw [bindO_of ht]
        simp only [bindO, Option.some.injEq, nameB]
        rw [decide_eq_true (show (x :: r).length ≤ 12 by omega), decide_eq_true hx]
        simp only [Bool.true_and]
        rw [Bool.eq_iff_iff]
        simp only [decide_eq_true_eq, trimI_nil, nameCh_mem, List.all_eq_true]
      · rw [if_neg (by simpa using hx)]
        simp only [bindO, nameB]
        rw [decide_eq_false hx]
        simp
    · rw [if_neg hl]
      simp only [bindO, nameB]
      rw [decide_eq_false (show ¬ (x :: r).length ≤ 12 by omega)]
      simp

theorem splitI_len (c : Int) : ∀ l : List Int, (splitI c l).length ≤ l.length + 1 ∧ ∀ p ∈ splitI c l, p.length ≤ l.length := by
  intro l
  induction l with
  | nil => simp [splitI]
  | cons x r ih =>
    simp only [splitI]
    obtain ⟨h1, h2⟩ := ih
    split
    · refine ⟨by simp; omega, fun p hp => ?_⟩
      rcases List.mem_cons.1 hp with hp | hp
      · subst hp; simp
      · have := h2 p hp; simp; omega
    · split
      · rename_i a t hs
        rw [hs] at h1 h2
        refine ⟨by simp at h1 ⊢; omega, fun p hp => ?_⟩
        rcases List.mem_cons.1 hp with hp | hp
        · subst hp
          have := h2 a (by simp)
          simp; omega
        · have := h2 p (by simp [hp])
          simp; omega
      · exact ⟨by simp, fun p hp => by simp at hp; subst hp; simp⟩

/-- a text whose lines all end -/
def endsB (t : List Int) : Bool := decide (t = []) || decide (t.getLast? = some 10)

theorem splitI_at (c : Int) (r : List Int) : splitI c (c :: r) = [] :: splitI c r := by simp [splitI]

theorem splitI_off {c x : Int} {r p : List Int} {q : List (List Int)} (h : x ≠ c) (hs : splitI c r = p :: q) : splitI c (x :: r) = (x :: p) :: q := by
  simp only [splitI]
  rw [if_neg h, hs]

/-- a line, with a further dot where it begins with one -/
def dotI : List Int → List Int
  | [] => []
  | x :: r => if x = 46 then 46 :: x :: r else x :: r

theorem split_all (p : Int → Bool) : ∀ t : List Int, (splitI 10 t).all (fun s => s.all p) = (t.filter fun x => decide (x ≠ 10)).all p := by
  intro t
  induction t with
  | nil => simp [splitI]
  | cons x r ih =>
    by_cases h : x = 10
    · subst h
      rw [splitI_at, List.all_cons, ih, List.filter_cons, if_neg (by decide)]
      simp
    · cases hr : splitI 10 r with
      | nil => exact absurd hr (splitI_ne 10 r)
      | cons a b =>
        rw [hr] at ih
        rw [splitI_off h hr, List.filter_cons, if_pos (by simpa using h)]
        simp only [List.all_cons] at ih ⊢
        rw [← ih, Bool.and_assoc]

theorem dotI_len (s : List Int) : (dotI s).length ≤ s.length + 1 := by
  cases s with
  | nil => simp [dotI]
  | cons x r => simp only [dotI]; split <;> simp

theorem mlines_len : ∀ t : List Int, (linesI t).length ≤ t.length := by
  intro t
  induction t with
  | nil => simp [linesI]
  | cons x r ih =>
    simp only [linesI]
    split
    · simp; omega
    · split
      · simp
      · rename_i h t' e
        rw [e] at ih
        simp at ih ⊢; omega

theorem mlines_flat : ∀ t : List Int, (linesI t).flatten = t := by
  intro t
  induction t with
  | nil => simp [linesI]
  | cons x r ih =>
    simp only [linesI]
    split
    · simp [ih]
    · split
      · rename_i e; rw [e] at ih; simp at ih ⊢; exact ih
      · rename_i h t' e; rw [e] at ih; simp at ih ⊢; exact ih

theorem mlines_ne : ∀ t : List Int, ∀ s ∈ linesI t, s ≠ [] := by
  intro t
  induction t with
  | nil => simp [linesI]
  | cons x r ih =>
    simp only [linesI]
    split
    · intro s hs; rcases List.mem_cons.1 hs with h | h
      · subst h; simp
      · exact ih s h
    · split
      · intro s hs; simp at hs; subst hs; simp
      · rename_i h t' e
        intro s hs
        rcases List.mem_cons.1 hs with h2 | h2
        · subst h2; simp
        · exact ih s (by rw [e]; exact List.mem_cons_of_mem _ h2)

theorem dots_len (ls : List (List Int)) : ((ls.map dotI).flatten).length ≤ ls.flatten.length + ls.length := by
  induction ls with
  | nil => simp
  | cons x r ih =>
    have := dotI_len x
    simp only [List.map_cons, List.flatten_cons, List.length_append, List.length_cons]
    omega

theorem mapGet_put {v : Ty} (z : List Int) : ∀ (m : List (List Int × v.den)) (x : List Int) (y : v.den), mapGet (k := .str) (v := v) (mapPut (k := .str) (v := v) m x y) z = if z = x then some y else mapGet (k := .str) (v := v) m z := by
  intro m x y
  induction m with
  | nil =>
    simp only [mapPut, mapGet, keyEq, decide_eq_true_eq]
  | cons e r ih =>
    simp only [mapPut, keyEq, decide_eq_true_eq]
    by_cases h : x = e.1
    · rw [if_pos h]
      simp only [mapGet, keyEq, decide_eq_true_eq]
      by_cases h2 : z = x
      · rw [if_pos h2, if_pos h2]
      · rw [if_neg h2, if_neg h2, if_neg (by rw [← h]; exact h2)]
    · rw [if_neg h]
      simp only [mapGet, keyEq, decide_eq_true_eq]
      by_cases h2 : z = e.1
      · rw [if_pos h2, if_pos h2, if_neg (fun e2 => h (by rw [← e2, h2]))]
      · rw [if_neg h2, if_neg h2, ih]

theorem g_room {R : Type} {n b : Nat} {k s : R} (h : n * b ≤ 140737488355328) (h' : n ≤ 140737488355328) : gate (roomFor n b) k s = k := gate_pos (room_of h h')

theorem g_dec {R : Type} {p : Prop} [Decidable p] {k s : R} (h : p) : gate (decide p) k s = k := gate_pos (decide_eq_true h)

theorem g_mk {R : Type} {l c : Int} {m b : Nat} {k s : R} (h1 : 0 ≤ l) (h2 : l ≤ c) (h : m * b ≤ 140737488355328) (h' : m ≤ 140737488355328) : gate (decide (0 ≤ l ∧ l ≤ c) && roomFor m b) k s = k :=
  gate_pos (by rw [decide_eq_true ⟨h1, h2⟩, room_of h h']; rfl)

theorem cut_end {α : Type} (xs : List α) (l : Nat) (h : l ≤ xs.length) : cut xs (l : Int) (xs.length : Int) = xs.drop l := by
  rw [cut_nat xs l xs.length h]
  exact List.take_of_length_le (by simp)

abbrev Ml := List Int × Int × List Int × List Int × Bool × List Int × List Int

abbrev ml0 : Ml := ([], (0 : Int), [], [], false, [], [])

theorem all_getD {α : Type} {d : α} {p : α → Bool} {s : List α} (h : ∀ j, j < s.length → p (s.getD j d) = true) : s.all p = true := by
  rw [List.all_eq_true]
  intro z hz
  obtain ⟨j, hj, rfl⟩ := List.getElem_of_mem hz
  have := h j hj
  rw [List.getD_eq_getElem?_getD, List.getElem?_eq_getElem hj] at this
  exact this

theorem any_getD {α : Type} {d : α} {p : α → Bool} {s : List α} {j : Nat} (hj : j < s.length) (h : p (s.getD j d) = false) : s.all p = false := by
  rw [List.all_eq_false]
  refine ⟨s[j], List.getElem_mem hj, ?_⟩
  rw [List.getD_eq_getElem?_getD, List.getElem?_eq_getElem hj] at h
  simp only [Option.getD_some] at h
  rw [h]; decide

def plainCh (x : Int) : Bool := decide (32 ≤ x ∧ x ≤ 126)

theorem plain1_eq (N : Nat) (c : Int) : mail_plain_1 N c = some (!plainCh c) := by
  unfold mail_plain_1 plainCh
  simp only [decide_eq_true_eq]
  by_cases h : c < 32
  · rw [if_pos h]
    simp only [bindO, Option.some.injEq]
    rw [decide_eq_false (show ¬ (32 ≤ c ∧ c ≤ 126) by omega)]
    rfl
  · rw [if_neg h]
    simp only [bindO, Option.some.injEq]
    by_cases h2 : c > 126
    · rw [decide_eq_true h2, decide_eq_false (show ¬ (32 ≤ c ∧ c ≤ 126) by omega)]; rfl
    · rw [decide_eq_false h2, decide_eq_true (show (32 ≤ c ∧ c ≤ 126) by omega)]; rfl

theorem plain_eq (N : Nat) (s : List Int) (hs : s.length ≤ 1048576) (hN : 1048577 < N) : mail_plain N s = some (s.all plainCh) := by
  unfold mail_plain
  rw [gate_pos (room_of (by omega) (by omega))]
  refine iter_rule (fun v => ∃ i : Nat, v = ((i : Int), ()) ∧ i ≤ s.length ∧ ∀ j : Nat, j < i → plainCh (s.getD j 0) = true) (fun v => s.length - v.1.toNat)
    (fun o => o = some (s.all plainCh)) ?_ N _ ⟨0, rfl, Nat.zero_le _, fun j hj => absurd hj (Nat.not_lt_zero _)⟩ (by simp only; omega)
  rintro v again ⟨i, rfl, hi, hall⟩ hag
  unfold mail_plain_i0_slices_ContainsFunc_i0_slices_IndexFunc.s0
  simp only [decide_eq_true_eq]
  by_cases hlt : i < s.length
  · rw [if_pos (by omega), gate_pos (inR_of (by omega) (by omega)), getI_nat, bindO_of (plain1_eq N _)]
    cases hc : plainCh (s.getD i 0) with
    | true =>
      simp only [Bool.not_true, Bool.false_eq_true, if_false]
      rw [w64 (by omega) (by omega)]
      refine hag _ ⟨i + 1, by simp, by omega, fun j hj => ?_⟩ (by simp only; omega)
      rcases Nat.lt_or_eq_of_le (Nat.le_of_lt_succ hj) with h | h
      · exact hall j h
      · subst h; exact hc
    | false =>
      simp only [Bool.not_false, if_true, Option.some.injEq]
      rw [any_getD hlt hc, decide_eq_true (show (i : Int) ≥ 0 by omega)]
      rfl
  · rw [if_neg (by omega), all_getD (d := 0) (fun j hj => hall j (by omega))]
    rfl

theorem clean_eq (N : Nat) (s : List Int) (hs : s.length ≤ 1048576) (hN : 1048577 < N) : wrackref2_MailErr_1 N s = some (s.all plainCh) := by
  unfold wrackref2_MailErr_1
  refine iter_rule (fun v => ∃ i : Nat, v = ((i : Int), ()) ∧ i ≤ s.length ∧ ∀ j : Nat, j < i → plainCh (s.getD j 0) = true) (fun v => s.length - v.1.toNat)
    (fun o => o = some (s.all plainCh)) ?_ N _ ⟨0, rfl, Nat.zero_le _, fun j hj => absurd hj (Nat.not_lt_zero _)⟩ (by simp only; omega)
  rintro v again ⟨i, rfl, hi, hall⟩ hag
  unfold wrackref2_MailErr_1.s0
  simp only [decide_eq_true_eq]
  by_cases hlt : i < s.length
  · rw [if_pos (by omega), gate_pos (inR_of (by omega) (by omega)), gate_pos (inR_of (by omega) (by omega)), getI_nat]
    have body : (if s.getD i 0 < 32 then some true else some (decide (s.getD i 0 > 126)) : Option Bool) = some (!plainCh (s.getD i 0)) := by
      have := plain1_eq N (s.getD i 0)
      unfold mail_plain_1 at this
      simp only [decide_eq_true_eq] at this
      rw [← this]
      split <;> rfl
    rw [bindO_of body]
    cases hc : plainCh (s.getD i 0) with
    | true =>
      simp only [Bool.not_true, Bool.false_eq_true, if_false]
      rw [w64 (by omega) (by omega)]
      refine hag _ ⟨i + 1, by simp, by omega, fun j hj => ?_⟩ (by simp only; omega)
      rcases Nat.lt_or_eq_of_le (Nat.le_of_lt_succ hj) with h | h
      · exact hall j h
      · subst h; exact hc
    | false =>
      simp only [Bool.not_false, if_true, Option.some.injEq]
      rw [any_getD hlt hc]
  · rw [if_neg (by omega), all_getD (d := 0) (fun j hj => hall j (by omega))]

theorem getLast_drop {s : List Int} (h : s ≠ []) (x : Int) : s.drop (s.length - 1) = [x] ↔ s.getLast? = some x := by
  obtain ⟨a, b, rfl⟩ : ∃ a b, s = a ++ [b] := ⟨s.dropLast, s.getLast h, (List.dropLast_concat_getLast h).symm⟩
  simp

theorem suffix_eq (N : Nat) (s : List Int) (hs : s.length ≤ 1048576) : strings_HasSuffix N s [10] = some (decide (s.getLast? = some 10)) := by
  have key : stringslite_HasSuffix N s [10] = some (decide (s.getLast? = some 10)) := by
    unfold stringslite_HasSuffix
    simp only [decide_eq_true_eq, List.length_cons, List.length_nil]
    by_cases h : (s.length : Int) ≥ ((0 + 1 : Nat) : Int)
    · have hne : s ≠ [] := by intro e; subst e; simp at h
      rw [if_pos h]
      have e := cut_end s (s.length - 1) (by omega)
      have ew : IntKind.wrap .i64 ((s.length : Int) - ((0 + 1 : Nat) : Int)) = ((s.length - 1 : Nat) : Int) := by rw [w64 (by omega) (by omega)]; omega
      simp only [ew, e]
      rw [gate_pos (bounds_of (by omega) (by omega) (by omega))]
      simp only [bindO, Option.some.injEq]
      rw [Bool.eq_iff_iff]
      simp only [decide_eq_true_eq]
      exact getLast_drop hne 10
    · rw [if_neg h]
      have : s = [] := by
        cases s with
        | nil => rfl
        | cons x r => simp at h; omega
      subst this
      rfl
  unfold strings_HasSuffix
  rw [bindO_of key]

/-- a reference: none, or a name -/
def refB (s : List Int) : Bool := decide (s = []) || nameB s

/-- what a message's check reports -/
def oneI (m : Ml) : Int :=
  if (nameB m.1 && nameB m.2.2.1 && refB m.2.2.2.1) = false then 6
  else if m.2.1 < 0 ∨ 4294967295 < m.2.1 then 21
  else if (m.2.2.2.2.2.1.all plainCh && endsB m.2.2.2.2.2.2 && (m.2.2.2.2.2.2.filter fun x => decide (x ≠ 10)).all plainCh) = false then 3 else 0

/-- the lengths that a small argument gives -/
def Small (m : Ml) : Prop := m.1.length ≤ 1048576 ∧ m.2.2.1.length ≤ 1048576 ∧ m.2.2.2.1.length ≤ 1048576 ∧ m.2.2.2.2.2.1.length ≤ 1048576 ∧ m.2.2.2.2.2.2.length ≤ 1048576

theorem endsB_eq (t : List Int) : endsB t = (decide (t = []) || decide (t.getLast? = some 10)) := rfl

theorem one_eq (N : Nat) (m : Ml) (hm : Small m) (hN : 1048577 < N) : mail_one N m = some (oneI m) := by
  obtain ⟨h1, h2, h3, h4, h5⟩ := hm
  unfold mail_one
  have names : (bindO (fs_Named N m.1) (fun r6 => if (!r6) = true then some true else bindO (fs_Named N m.2.2.1) (fun r11 => if (!r11) = true then some true else if (!decide (m.2.2.2.1 = [])) = true then bindO (fs_Named N m.2.2.2.1) (fun r21 => some (!r21)) none else some false) none) none : Option Bool) = some (!(nameB m.1 && nameB m.2.2.1 && refB m.2.2.2.1)) := by
    rw [bindO_of (named_eq N _ h1 hN)]
    cases nameB m.1 with
    | false => rfl
    | true =>
      rw [if_neg (by decide), bindO_of (named_eq N _ h2 hN)]
      cases nameB m.2.2.1 with
      | false => rfl
      | true =>
        rw [if_neg (by decide)]
        unfold refB
        by_cases hr : m.2.2.2.1 = []
        · rw [decide_eq_true hr]; rfl
        · rw [decide_eq_false hr, if_pos (by decide), bindO_of (named_eq N _ h3 hN)]
          simp
  simp only [names]
  unfold oneI
  cases hnm : (nameB m.1 && nameB m.2.2.1 && refB m.2.2.2.1) with
  | false => rfl
  | true =>
    simp only [bindO, Bool.not_true, Bool.false_eq_true, if_false, decide_eq_true_eq, Bool.true_eq_false]
    have times : (if m.2.1 < 0 then some true else some (decide (m.2.1 > 4294967295)) : Option Bool) = some (decide (m.2.1 < 0 ∨ 4294967295 < m.2.1)) := by
      by_cases h : m.2.1 < 0
      · rw [if_pos h, decide_eq_true (Or.inl h)]
      · rw [if_neg h]
        congr 1
        rw [Bool.eq_iff_iff]
        simp only [decide_eq_true_eq]
        omega
    rw [times]
    simp only
    by_cases ht : m.2.1 < 0 ∨ 4294967295 < m.2.1
    · rw [decide_eq_true ht, if_pos rfl, if_pos ht]
    · rw [decide_eq_false ht, if_neg (by decide), if_neg ht, plain_eq N _ h4 hN]
      simp only
      have hd : dropF m.2.2.2.2.2.2 [10] [] = some (m.2.2.2.2.2.2.filter fun x => decide (x ≠ 10)) := by
        unfold dropF
        simp only
        rw [if_pos (by omega)]
      have hfl : (m.2.2.2.2.2.2.filter fun x => decide (x ≠ 10)).length ≤ 1048576 := Nat.le_trans (List.length_filter_le _ _) h5
      cases m.2.2.2.2.2.1.all plainCh with
      | false => rfl
      | true =>
        simp only [Bool.not_true, Bool.false_eq_true, if_false, Bool.true_and]
        rw [hd]
        simp only
        rw [plain_eq N _ hfl hN]
        simp only
        rw [endsB_eq]
        by_cases he : m.2.2.2.2.2.2 = []
        · rw [decide_eq_true he]
          simp only [Bool.not_true, Bool.false_eq_true, if_false, Bool.true_or, Bool.true_and]
          cases (m.2.2.2.2.2.2.filter fun x => decide (x ≠ 10)).all plainCh <;> rfl
        · rw [decide_eq_false he]
          simp only [Bool.not_false, if_true, Bool.false_or]
          rw [suffix_eq N _ h5]
          simp only
          cases decide (m.2.2.2.2.2.2.getLast? = some 10) with
          | false => rfl
          | true =>
            simp only [Bool.not_true, Bool.false_eq_true, if_false, Bool.true_and]
            cases (m.2.2.2.2.2.2.filter fun x => decide (x ≠ 10)).all plainCh <;> rfl

theorem ml_mem {l : List Ml} {i : Nat} (h : i < l.length) : l.getD i ml0 ∈ l := by
  rw [List.getD_eq_getElem?_getD, List.getElem?_eq_getElem h]
  exact List.getElem_mem h

/-- is the name there before the i-th -/
def seenM (l : List Ml) (i : Nat) (p : List Int) : Bool := (l.take i).any fun x => decide (x.2.2.1 = p)

def mailAt (l : List Ml) (i : Nat) : Int := if oneI (l.getD i ml0) = 0 then (if seenM l i (l.getD i ml0).2.2.1 = true then 7 else 0) else oneI (l.getD i ml0)

def ResM (l : List Ml) (r : Int) : Prop :=
  (60 < l.length ∧ r = 9) ∨ (l.length ≤ 60 ∧ ((∃ i, i < l.length ∧ (∀ j, j < i → mailAt l j = 0) ∧ mailAt l i ≠ 0 ∧ r = mailAt l i) ∨ ((∀ j, j < l.length → mailAt l j = 0) ∧ r = 0)))

theorem resM_unique {l : List Ml} {r q : Int} (h1 : ResM l r) (h2 : ResM l q) : r = q := by
  rcases h1 with ⟨a1, a2⟩ | ⟨a1, a2⟩
  · rcases h2 with ⟨b1, b2⟩ | ⟨b1, b2⟩
    · rw [a2, b2]
    · omega
  · rcases h2 with ⟨b1, b2⟩ | ⟨b1, b2⟩
    · omega
    · rcases a2 with ⟨i, i1, i2, i3, i4⟩ | ⟨i1, i2⟩
      · rcases b2 with ⟨k, k1, k2, k3, k4⟩ | ⟨k1, k2⟩
        · have : i = k := by
            rcases Nat.lt_trichotomy i k with h | h | h
            · exact absurd (k2 i h) i3
            · exact h
            · exact absurd (i2 k h) k3
          subst this
          rw [i4, k4]
        · exact absurd (k1 i i1) i3
      · rcases b2 with ⟨k, k1, k2, k3, k4⟩ | ⟨k1, k2⟩
        · exact absurd (i1 k k1) k3
        · rw [i2, k2]

theorem twiceM {R : Type} (N : Nat) (s : R) (k0 : (List Int × Int × List Int × List Int × Bool × List Int × List Int × Unit) → R) (kr : (List Int × Int × List Int × List Int × Bool × List Int × List Int × Int × Unit) → R) (l : List Ml)
    (a1 : List Int) (a2 : Int) (p a4 : List Int) (a5 : Bool) (a6 a7 : List Int) (hl : l.length ≤ 1048576) (Q : R → Prop)
    (h0 : (l.any fun x => decide (x.2.2.1 = p)) = false → Q (k0 (a1, a2, p, a4, a5, a6, a7, ()))) (h1 : ∀ i : Nat, (l.any fun x => decide (x.2.2.1 = p)) = true → Q (kr (a1, a2, p, a4, a5, a6, a7, (i : Int), ()))) (n : Nat) (hn : l.length < n) :
    Q (iter (mail_Check_i0_slices_ContainsFunc_i0_slices_IndexFunc.s0 N s k0 kr (l, (l.length : Int), ())) s n (a1, a2, p, a4, a5, a6, a7, (0 : Int), ())) := by
  refine iter_rule (fun v => ∃ i : Nat, v = (a1, a2, p, a4, a5, a6, a7, (i : Int), ()) ∧ i ≤ l.length ∧ ∀ j : Nat, j < i → (l.getD j ml0).2.2.1 ≠ p) (fun v => l.length - v.2.2.2.2.2.2.2.1.toNat) Q ?_ n _ ⟨0, rfl, Nat.zero_le _, fun j hj => absurd hj (Nat.not_lt_zero _)⟩ (by simp only; omega)
  rintro v again ⟨i, rfl, hi, hall⟩ hag
  unfold mail_Check_i0_slices_ContainsFunc_i0_slices_IndexFunc.s0
  simp only [decide_eq_true_eq]
  by_cases hlt : i < l.length
  · rw [if_pos (by omega), gate_pos (inR_of (by omega) (by omega)), getI_nat]
    by_cases h : (l.getD i ml0).2.2.1 = p
    · rw [if_pos h]
      refine h1 i ?_
      rw [List.any_eq_true]
      exact ⟨_, ml_mem hlt, by simpa using h⟩
    · rw [if_neg h, w64 (by omega) (by omega)]
      refine hag _ ⟨i + 1, by simp, by omega, fun j hj => ?_⟩ (by simp only; omega)
      rcases Nat.lt_or_eq_of_le (Nat.le_of_lt_succ hj) with h2 | h2
      · exact hall j h2
      · subst h2; exact h
  · rw [if_neg (by omega)]
    refine h0 ?_
    rw [List.any_eq_false]
    intro e he
    obtain ⟨j, hj, rfl⟩ := List.getElem_of_mem he
    have := hall j (by omega)
    rw [List.getD_eq_getElem?_getD, List.getElem?_eq_getElem hj] at this
    simpa using this

theorem mcut_take {α : Type} (l : List α) (i : Nat) : cut l (0 : Int) (i : Int) = l.take i := by
  have := cut_nat l 0 i (Nat.zero_le _)
  simpa using this

theorem mcheck_res (N : Nat) (l : List Ml) (hp : ∀ e ∈ l, Small e) (hN : 1048577 < N) : ∃ r, mail_Check N l = some r ∧ ResM l r := by
  unfold mail_Check
  simp only [decide_eq_true_eq]
  by_cases h60 : 60 < l.length
  · rw [if_pos (by omega)]
    exact ⟨9, rfl, Or.inl ⟨h60, rfl⟩⟩
  · rw [if_neg (by omega)]
    refine iter_rule (fun v => ∃ i : Nat, v = ((i : Int), ()) ∧ i ≤ l.length ∧ ∀ j, j < i → mailAt l j = 0) (fun v => l.length - v.1.toNat)
      (fun o => ∃ r, o = some r ∧ ResM l r) ?_ N _ ⟨0, rfl, Nat.zero_le _, fun j hj => absurd hj (Nat.not_lt_zero _)⟩ (by simp only; omega)
    rintro v again ⟨i, rfl, hi, hall⟩ hag
    unfold mail_Check.s0
    simp only [decide_eq_true_eq]
    by_cases hlt : i < l.length
    · have stop : ∀ r : Int, mailAt l i = r → r ≠ 0 → ∃ q, (some r : Option Int) = some q ∧ ResM l q := fun r h1 h2 => ⟨r, rfl, Or.inr ⟨by omega, Or.inl ⟨i, hlt, hall, by rw [h1]; exact h2, h1.symm⟩⟩⟩
      have go : mailAt l i = 0 → ∃ q, again ((i : Int) + 1, ()) = some q ∧ ResM l q := fun h => hag _ ⟨i + 1, by simp, by omega, fun j hj => by
        rcases Nat.lt_or_eq_of_le (Nat.le_of_lt_succ hj) with h2 | h2
        · exact hall j h2
        · subst h2; exact h⟩ (by simp only; omega)
      rw [if_pos (by omega), gate_pos (inR_of (by omega) (by omega)), getI_nat, bindO_of (one_eq N _ (hp _ (ml_mem hlt)) hN)]
      by_cases h1 : oneI (l.getD i ml0) = 0
      · rw [if_neg (by rw [decide_eq_true h1]; decide), gate_pos (bounds_of (by omega) (by omega) (by omega)), mcut_take]
        refine twiceM N none _ _ (l.take i) _ _ _ _ _ _ _ (by rw [List.length_take]; omega) (fun o => ∃ q, o = some q ∧ ResM l q) (fun hno => ?_) (fun k hyes => ?_) N (by rw [List.length_take]; omega)
        · rw [if_neg (by decide), w64 (by omega) (by omega)]
          exact go (by unfold mailAt; rw [if_pos h1, if_neg (by unfold seenM; rw [hno]; decide)])
        · simp only
          rw [if_pos (by omega)]
          have hyes : seenM l i (l.getD i ml0).2.2.1 = true := hyes
          exact stop 7 (by unfold mailAt; rw [if_pos h1, if_pos hyes]) (by decide)
      · rw [if_pos (by rw [decide_eq_false h1]; decide)]
        exact stop _ (by unfold mailAt; rw [if_neg h1]) h1
    · rw [if_neg (by omega)]
      exact ⟨0, rfl, Or.inr ⟨by omega, Or.inr ⟨fun j hj => hall j (by omega), rfl⟩⟩⟩

theorem cleanLoop {R : Type} (N : Nat) (s : R) (k3 : (List (List Int × Bool) × List Int × Int × List Int × List Int × Bool × List Int × List Int × Unit) → R) (kr : (Int × Unit) → R) (c1 : List Ml) (c2 c3 : Int) (seen : List (List Int × Bool)) (ls : List (List Int))
    (a1 : List Int) (a2 : Int) (a3 a4 : List Int) (a5 : Bool) (a6 a7 : List Int) (hN : 1048577 < N) (hl : ls.length ≤ 1048577) (hs : ∀ p ∈ ls, p.length ≤ 1048576) (Q : R → Prop)
    (h0 : (ls.all fun p => p.all plainCh) = true → Q (k3 (seen, a1, a2, a3, a4, a5, a6, a7, ()))) (h1 : (ls.all fun p => p.all plainCh) = false → Q (kr ((3 : Int), ()))) (n : Nat) (hn : ls.length < n) :
    Q (iter (wrackref2_MailErr.s1 N s k3 kr (c1, c2, c3, (ls.length : Int), ())) s n (seen, ls, (0 : Int), a1, a2, a3, a4, a5, a6, a7, ())) := by
  refine iter_rule (fun v => ∃ i : Nat, v = (seen, ls, (i : Int), a1, a2, a3, a4, a5, a6, a7, ()) ∧ i ≤ ls.length ∧ ∀ j : Nat, j < i → (ls.getD j []).all plainCh = true) (fun v => ls.length - v.2.2.1.toNat) Q ?_ n _ ⟨0, rfl, Nat.zero_le _, fun j hj => absurd hj (Nat.not_lt_zero _)⟩ (by simp only; omega)
  rintro v again ⟨i, rfl, hi, hall⟩ hag
  unfold wrackref2_MailErr.s1
  simp only [decide_eq_true_eq]
  by_cases hlt : i < ls.length
  · have hm : ls.getD i [] ∈ ls := by
      rw [List.getD_eq_getElem?_getD, List.getElem?_eq_getElem hlt]
      exact List.getElem_mem hlt
    rw [if_pos (by omega), gate_pos (inR_of (by omega) (by omega)), gate_pos (inR_of (by omega) (by omega)), getI_nat, bindO_of (clean_eq N _ (hs _ hm) hN)]
    cases hc : (ls.getD i []).all plainCh with
    | true =>
      rw [if_neg (by decide), w64 (by omega) (by omega)]
      refine hag _ ⟨i + 1, by simp, by omega, fun j hj => ?_⟩ (by simp only; omega)
      rcases Nat.lt_or_eq_of_le (Nat.le_of_lt_succ hj) with h2 | h2
      · exact hall j h2
      · subst h2; exact hc
    | false =>
      rw [if_pos (by decide)]
      exact h1 (any_getD (p := fun p => p.all plainCh) hlt hc)
  · rw [if_neg (by omega)]
    exact h0 (all_getD (d := []) (fun j hj => hall j (by omega)))

theorem last_getD {t : List Int} (h : t ≠ []) : t.getLast? = some (t.getD (t.length - 1) 0) := by
  have : 0 < t.length := List.length_pos_iff.2 h
  rw [List.getLast?_eq_getElem?, List.getD_eq_getElem?_getD, List.getElem?_eq_getElem (by omega)]
  rfl

theorem merr_res (N : Nat) (l : List Ml) (hp : ∀ e ∈ l, Small e) (hN : 1048577 < N) : ∃ r, wrackref2_MailErr N l = some r ∧ ResM l r := by
  unfold wrackref2_MailErr
  simp only [decide_eq_true_eq]
  by_cases h60 : 60 < l.length
  · rw [if_pos (by omega)]
    exact ⟨9, rfl, Or.inl ⟨h60, rfl⟩⟩
  · rw [if_neg (by omega)]
    refine iter_rule (fun v => ∃ (seen : List (List Int × Bool)) (i : Nat), v = (seen, (i : Int), ()) ∧ i ≤ l.length ∧ (∀ j, j < i → mailAt l j = 0) ∧ ∀ d, (mapGet (k := .str) (v := .bool) seen d).getD false = seenM l i d) (fun v => l.length - v.2.1.toNat)
      (fun o => ∃ r, o = some r ∧ ResM l r) ?_ N _ ⟨[], 0, rfl, Nat.zero_le _, fun j hj => absurd hj (Nat.not_lt_zero _), fun d => rfl⟩ (by simp only; omega)
    rintro v again ⟨seen, i, rfl, hi, hall, hmap⟩ hag
    unfold wrackref2_MailErr.s0
    simp only [decide_eq_true_eq]
    by_cases hlt : i < l.length
    · have stop : ∀ r : Int, mailAt l i = r → r ≠ 0 → ∃ q, (some r : Option Int) = some q ∧ ResM l q := fun r h1 h2 => ⟨r, rfl, Or.inr ⟨by omega, Or.inl ⟨i, hlt, hall, by rw [h1]; exact h2, h1.symm⟩⟩⟩
      have go : mailAt l i = 0 → ∃ q, again (mapPut (k := .str) (v := .bool) seen (l.getD i ml0).2.2.1 true, (i : Int) + 1, ()) = some q ∧ ResM l q := fun h => hag _ ⟨_, i + 1, rfl, by omega, fun j hj => by
          rcases Nat.lt_or_eq_of_le (Nat.le_of_lt_succ hj) with h2 | h2
          · exact hall j h2
          · subst h2; exact h, fun d => by
          rw [mapGet_put]
          have hs : seenM l (i + 1) d = (seenM l i d || decide ((l.getD i ml0).2.2.1 = d)) := by
            unfold seenM
            rw [List.take_add_one, List.any_append, List.getElem?_eq_getElem hlt, List.getD_eq_getElem?_getD, List.getElem?_eq_getElem hlt]
            simp
          rw [hs, ← hmap d]
          by_cases hd : d = (l.getD i ml0).2.2.1
          · rw [if_pos hd, decide_eq_true hd.symm]; simp
          · rw [if_neg hd, decide_eq_false (fun e => hd e.symm)]; simp⟩ (by simp only; omega)
      rw [if_pos (by omega), gate_pos (inR_of (by omega) (by omega)), getI_nat]
      obtain ⟨q1, q2, q3, q4, q5⟩ := hp _ (ml_mem hlt)
      have ho : oneI (l.getD i ml0) = oneI (l.getD i ml0) := rfl
      conv at ho => rhs; unfold oneI
      have hmt : mailAt l i = if oneI (l.getD i ml0) = 0 then (if seenM l i (l.getD i ml0).2.2.1 = true then 7 else 0) else oneI (l.getD i ml0) := rfl
      have hmg := hmap (l.getD i ml0).2.2.1
      generalize l.getD i ml0 = m at *
      have names : (bindO (wrackref2_Word N m.1) (fun r6 => if (!r6) = true then some true else bindO (wrackref2_Word N m.2.2.1) (fun r11 => if (!r11) = true then some true else if (!decide (m.2.2.2.1 = [])) = true then bindO (wrackref2_Word N m.2.2.2.1) (fun r21 => some (!r21)) none else some false) none) none : Option Bool) = some (!(nameB m.1 && nameB m.2.2.1 && refB m.2.2.2.1)) := by
        rw [bindO_of (word_eq N _)]
        cases nameB m.1 with
        | false => rfl
        | true =>
          rw [if_neg (by decide), bindO_of (word_eq N _)]
          cases nameB m.2.2.1 with
          | false => rfl
          | true =>
            rw [if_neg (by decide)]
            unfold refB
            by_cases hr : m.2.2.2.1 = []
            · rw [decide_eq_true hr]; rfl
            · rw [decide_eq_false hr, if_pos (by decide), bindO_of (word_eq N _)]
              simp
      rw [names]
      simp only [bindO]
      cases hnm : (nameB m.1 && nameB m.2.2.1 && refB m.2.2.2.1) with
      | false =>
        rw [hnm, if_pos rfl] at ho
        rw [if_pos (by decide)]
        refine stop 6 ?_ (by decide)
        rw [hmt, ho]; rfl
      | true =>
        rw [hnm, if_neg (by decide)] at ho
        rw [if_neg (by decide)]
        have times : (if m.2.1 < 0 then some true else some (decide (m.2.1 ≥ 4294967296)) : Option Bool) = some (decide (m.2.1 < 0 ∨ 4294967295 < m.2.1)) := by
          by_cases h : m.2.1 < 0
          · rw [if_pos h, decide_eq_true (Or.inl h)]
          · rw [if_neg h]
            congr 1
            rw [Bool.eq_iff_iff]
            simp only [decide_eq_true_eq]
            omega
        rw [times]
        simp only
        by_cases ht : m.2.1 < 0 ∨ 4294967295 < m.2.1
        · rw [if_pos ht] at ho
          rw [decide_eq_true ht, if_pos rfl]
          refine stop 21 ?_ (by decide)
          rw [hmt, ho]; rfl
        · rw [if_neg ht] at ho
          rw [decide_eq_false ht, if_neg (by decide), clean_eq N _ q4 hN]
          simp only
          cases hab : m.2.2.2.2.2.1.all plainCh with
          | false =>
            rw [hab, Bool.false_and, Bool.false_and, if_pos rfl] at ho
            simp only [Bool.not_false, if_true]
            refine stop 3 ?_ (by decide)
            rw [hmt, ho]; rfl
          | true =>
            rw [hab, Bool.true_and] at ho
            simp only [Bool.not_true, Bool.false_eq_true, if_false]
            have ends : (if (!decide (m.2.2.2.2.2.2 = [])) = true then gate (inR (IntKind.wrap .i64 ((m.2.2.2.2.2.2.length : Int) - 1)) (m.2.2.2.2.2.2.length : Int)) (some (!decide (getI 0 m.2.2.2.2.2.2 (IntKind.wrap .i64 ((m.2.2.2.2.2.2.length : Int) - 1)) = 10))) none else some false : Option Bool) = some (!endsB m.2.2.2.2.2.2) := by
              by_cases he : m.2.2.2.2.2.2 = []
              · rw [decide_eq_true he, he]; rfl
              · have hpos := List.length_pos_iff.2 he
                rw [decide_eq_false he, if_pos (by decide), show IntKind.wrap .i64 ((m.2.2.2.2.2.2.length : Int) - 1) = ((m.2.2.2.2.2.2.length - 1 : Nat) : Int) by rw [w64 (by omega) (by omega)]; omega, gate_pos (inR_of (by omega) (by omega)), getI_nat, endsB_eq, decide_eq_false he, last_getD he]
                simp
            rw [ends]
            simp only
            cases hen : endsB m.2.2.2.2.2.2 with
            | false =>
              rw [hen, Bool.false_and, if_pos rfl] at ho
              simp only [Bool.not_false, if_true]
              refine stop 3 ?_ (by decide)
              rw [hmt, ho]; rfl
            | true =>
              rw [hen, Bool.true_and] at ho
              simp only [Bool.not_true, Bool.false_eq_true, if_false]
              have hsp : strings_Split N m.2.2.2.2.2.2 [10] = some (splitI 10 m.2.2.2.2.2.2) := by
                unfold strings_Split
                have : genSplitF m.2.2.2.2.2.2 [10] 0 (-1) = some (splitI 10 m.2.2.2.2.2.2) := by
                  simp only [genSplitF]
                  rw [if_pos ⟨trivial, trivial, by omega⟩]
                rw [bindO_of this]
              rw [hsp]
              simp only
              obtain ⟨z1, z2⟩ := splitI_len 10 m.2.2.2.2.2.2
              refine cleanLoop N none _ _ _ _ _ _ _ _ _ _ _ _ _ _ hN (by omega) (fun p hpm => Nat.le_trans (z2 p hpm) q5) (fun o => ∃ q, o = some q ∧ ResM l q) (fun hall2 => ?_) (fun hno => ?_) N (by omega)
              · rw [split_all] at hall2
                rw [hall2, if_neg (by decide)] at ho
                simp only
                cases hs : seenM l i m.2.2.1 with
                | true =>
                  rw [hs] at hmg
                  rw [if_pos hmg]
                  refine stop 7 ?_ (by decide)
                  rw [hmt, ho, hs]; rfl
                | false =>
                  rw [hs] at hmg
                  rw [if_neg (by intro e; rw [hmg] at e; cases e), w64 (by omega) (by omega)]
                  refine go ?_
                  rw [hmt, ho, hs]; rfl
              · rw [split_all] at hno
                rw [hno, if_pos rfl] at ho
                refine stop 3 ?_ (by decide)
                rw [hmt, ho]; rfl
    · rw [if_neg (by omega)]
      exact ⟨0, rfl, Or.inr ⟨by omega, Or.inr ⟨fun j hj => hall j (by omega), rfl⟩⟩⟩

theorem oneI_text {m : Ml} (h : oneI m = 0) : nameB m.1 = true ∧ nameB m.2.2.1 = true ∧ refB m.2.2.2.1 = true ∧ 0 ≤ m.2.1 ∧ m.2.1 ≤ 4294967295 ∧ m.2.2.2.2.2.1.all plainCh = true ∧ endsB m.2.2.2.2.2.2 = true ∧ (m.2.2.2.2.2.2.filter fun x => decide (x ≠ 10)).all plainCh = true := by
  unfold oneI at h
  split at h
  · cases h
  · rename_i h1
    split at h
    · cases h
    · rename_i h2
      split at h
      · cases h
      · rename_i h3
        simp only [Bool.not_eq_false, Bool.and_eq_true] at h1 h3
        exact ⟨h1.1.1, h1.1.2, h1.2, by omega, by omega, h3.1.1, h3.1.2, h3.2⟩

theorem resM_zero {l : List Ml} (h : ResM l 0) : l.length ≤ 60 ∧ ∀ e ∈ l, oneI e = 0 := by
  rcases h with ⟨_, h⟩ | ⟨h5, h⟩
  · exact absurd h (by decide)
  · rcases h with ⟨i, _, _, h6, h7⟩ | ⟨h6, _⟩
    · exact absurd h7.symm h6
    · refine ⟨h5, fun e he => ?_⟩
      obtain ⟨j, hj, rfl⟩ := List.getElem_of_mem he
      have := h6 j hj
      unfold mailAt at this
      rw [List.getD_eq_getElem?_getD, List.getElem?_eq_getElem hj] at this
      simp only [Option.getD_some] at this
      split at this
      · assumption
      · assumption

/-- the k-th is the first whose name the i-th returns to -/
def edgeM (l : List Ml) (i k : Nat) : Prop := k < l.length ∧ (l.getD k ml0).2.2.1 = (l.getD i ml0).2.2.2.1 ∧ ∀ j, j < k → (l.getD j ml0).2.2.1 ≠ (l.getD i ml0).2.2.2.1

theorem edgeM_unique {l : List Ml} {i k q : Nat} (h1 : edgeM l i k) (h2 : edgeM l i q) : k = q := by
  rcases Nat.lt_trichotomy k q with h | h | h
  · exact absurd h1.2.1 (h2.2.2 k h)
  · exact h
  · exact absurd h2.2.1 (h1.2.2 q h)

/-- a label is the same along every return -/
def Compat {α : Type} (l : List Ml) (f : Nat → α) : Prop := ∀ i k, i < l.length → edgeM l i k → f i = f k

structure GInv (l : List Ml) (i : Nat) (g : List Int) : Prop where
  len : g.length = l.length
  low : ∀ a, a < l.length → 0 ≤ g.getD a 0 ∧ g.getD a 0 ≤ a
  idem : ∀ a, a < l.length → g.getD (g.getD a 0).toNat 0 = g.getD a 0
  edge : ∀ j k, j < i → edgeM l j k → g.getD j 0 = g.getD k 0
  univ : ∀ f : Nat → Int, Compat l f → ∀ a b, a < l.length → b < l.length → g.getD a 0 = g.getD b 0 → f a = f b

theorem getD_map_int (f : Int → Int) (g : List Int) {a : Nat} (h : a < g.length) : (g.map f).getD a 0 = f (g.getD a 0) := by
  rw [List.getD_eq_getElem?_getD, List.getElem?_map, List.getD_eq_getElem?_getD, List.getElem?_eq_getElem h]
  rfl

def joinG (a b : Int) (x : Int) : Int := if x = b then a else x

theorem GInv.skip {l : List Ml} {i : Nat} {g : List Int} (h : GInv l i g) (hno : ∀ k, ¬ edgeM l i k) : GInv l (i + 1) g := by
  refine ⟨h.len, h.low, h.idem, fun j k hj he => ?_, h.univ⟩
  rcases Nat.lt_or_eq_of_le (Nat.le_of_lt_succ hj) with h2 | h2
  · exact h.edge j k h2 he
  · subst h2; exact absurd he (hno k)

theorem GInv.step {l : List Ml} {i k : Nat} {g : List Int} (h : GInv l i g) (hi : i < l.length) (he : edgeM l i k) : GInv l (i + 1) (g.map (joinG (minI (g.getD i 0) (g.getD k 0)) (maxI (g.getD i 0) (g.getD k 0)))) := by
  have hk := he.1
  have hab : (minI (g.getD i 0) (g.getD k 0) = g.getD i 0 ∧ maxI (g.getD i 0) (g.getD k 0) = g.getD k 0) ∨ (minI (g.getD i 0) (g.getD k 0) = g.getD k 0 ∧ maxI (g.getD i 0) (g.getD k 0) = g.getD i 0) := by
    unfold minI maxI
    split <;> split <;> omega
  have hle : minI (g.getD i 0) (g.getD k 0) ≤ maxI (g.getD i 0) (g.getD k 0) := by
    unfold minI maxI
    split <;> split <;> omega
  obtain ⟨a, ha⟩ : ∃ a, minI (g.getD i 0) (g.getD k 0) = a := ⟨_, rfl⟩
  obtain ⟨b, hb⟩ : ∃ b, maxI (g.getD i 0) (g.getD k 0) = b := ⟨_, rfl⟩
  rw [ha, hb] at hab hle
  rw [ha, hb]
  have hget : ∀ c, c < l.length → (g.map (joinG a b)).getD c 0 = joinG a b (g.getD c 0) := fun c hc => getD_map_int _ _ (by rw [h.len]; exact hc)
  -- a is a label of itself
  obtain ⟨q, hq, hqa⟩ : ∃ q, q < l.length ∧ g.getD q 0 = a := by
    rcases hab with ⟨e, _⟩ | ⟨e, _⟩
    · exact ⟨i, hi, e.symm⟩
    · exact ⟨k, hk, e.symm⟩
  have hal := h.low q hq
  have hai := h.idem q hq
  rw [hqa] at hal hai
  have hn : a.toNat < l.length := by omega
  refine ⟨by simp [h.len], fun c hc => ?_, fun c hc => ?_, fun j k' hj hj' => ?_, fun f hf c d hc hd hcd => ?_⟩
  · rw [hget c hc]
    have := h.low c hc
    unfold joinG
    split <;> omega
  · rw [hget c hc]
    have hlc := h.low c hc
    by_cases h2 : g.getD c 0 = b
    · rw [show joinG a b (g.getD c 0) = a by unfold joinG; rw [if_pos h2], hget _ hn, hai]
      unfold joinG
      split <;> rfl
    · rw [show joinG a b (g.getD c 0) = g.getD c 0 by unfold joinG; rw [if_neg h2], hget _ (by omega), h.idem c hc]
      unfold joinG
      rw [if_neg h2]
  · have hk' := hj'.1
    rw [hget _ (by omega), hget _ hk']
    rcases Nat.lt_or_eq_of_le (Nat.le_of_lt_succ hj) with h2 | h2
    · rw [h.edge j k' h2 hj']
    · subst h2
      have := edgeM_unique he hj'
      subst this
      unfold joinG
      rcases hab with ⟨e1, e2⟩ | ⟨e1, e2⟩
      · rw [← e2, if_pos rfl, ← e1]; split <;> rfl
      · rw [← e2, if_pos rfl, ← e1]; split <;> rfl
  · rw [hget c hc, hget d hd] at hcd
    have hik := hf i k hi he
    -- what bears the label a, and what bears b
    have fa : ∀ c, c < l.length → g.getD c 0 = a → f c = f i := by
      intro c hc e
      rcases hab with ⟨e1, e2⟩ | ⟨e1, e2⟩
      · exact h.univ f hf c i hc hi (by rw [e, e1])
      · rw [hik]; exact h.univ f hf c k hc hk (by rw [e, e1])
    have fb : ∀ c, c < l.length → g.getD c 0 = b → f c = f i := by
      intro c hc e
      rcases hab with ⟨e1, e2⟩ | ⟨e1, e2⟩
      · rw [hik]; exact h.univ f hf c k hc hk (by rw [e, e2])
      · exact h.univ f hf c i hc hi (by rw [e, e2])
    unfold joinG at hcd
    by_cases h1 : g.getD c 0 = b
    · by_cases h2 : g.getD d 0 = b
      · rw [fb c hc h1, fb d hd h2]
      · rw [if_pos h1, if_neg h2] at hcd
        rw [fb c hc h1, fa d hd hcd.symm]
    · by_cases h2 : g.getD d 0 = b
      · rw [if_neg h1, if_pos h2] at hcd
        rw [fa c hc hcd, fb d hd h2]
      · rw [if_neg h1, if_neg h2] at hcd
        exact h.univ f hf c d hc hd hcd

theorem initLoop {R : Type} (N : Nat) (s : R) (K : (List Int × Unit) → R) (l : List Ml) (g0 : List Int) (hl : g0.length ≤ 1048576) (n : Nat) (hn : g0.length < n) :
    iter (mail_Threads.s0 N s K (l, (g0.length : Int), ())) s n (g0, (0 : Int), ()) = K ((List.range g0.length).map Int.ofNat, ()) := by
  refine iter_rule (fun v => ∃ (g : List Int) (i : Nat), v = (g, (i : Int), ()) ∧ i ≤ g0.length ∧ g.length = g0.length ∧ ∀ j, j < i → g.getD j 0 = j) (fun v => g0.length - v.2.1.toNat) (fun o => o = K ((List.range g0.length).map Int.ofNat, ()))
    ?_ n _ ⟨g0, 0, rfl, Nat.zero_le _, rfl, fun j hj => absurd hj (Nat.not_lt_zero _)⟩ (by simp only; omega)
  rintro v again ⟨g, i, rfl, hi, hg, hall⟩ hag
  unfold mail_Threads.s0
  simp only [decide_eq_true_eq]
  by_cases hlt : i < g0.length
  · rw [if_pos (by omega), gate_pos (inR_of (by omega) (by omega)), gate_pos (inR_of (by omega) (by omega)), w64 (by omega) (by omega)]
    refine hag _ ⟨_, i + 1, rfl, by omega, by simp [hg], fun j hj => ?_⟩ (by simp only; omega)
    simp only [Int.toNat_natCast]
    rw [List.getD_eq_getElem?_getD, List.getElem?_set]
    by_cases e : i = j
    · rw [if_pos e, if_pos (by omega), e]; rfl
    · rw [if_neg e, ← List.getD_eq_getElem?_getD]
      exact hall j (by omega)
  · rw [if_neg (by omega)]
    have : g = (List.range g0.length).map Int.ofNat := by
      apply List.ext_getElem
      · simp [hg]
      · intro j h1 h2
        have := hall j (by omega)
        rw [List.getD_eq_getElem?_getD, List.getElem?_eq_getElem h1] at this
        simp only [Option.getD_some] at this
        simp [this]
    rw [this]

theorem relabel {R : Type} (N : Nat) (s : R) (K : (List Int × Unit) → R) (c1 : List Ml) (a b : Int) (c4 : List Ml) (c5 c6 : Int) (g0 : List Int) (hl : g0.length ≤ 1048576) (n : Nat) (hn : g0.length < n) :
    iter (mail_Threads.s2 N s K (c1, a, b, c4, c5, c6, (g0.length : Int), ())) s n (g0, (0 : Int), ()) = K (g0.map (joinG a b), ()) := by
  refine iter_rule (fun v => ∃ i : Nat, v = ((g0.take i).map (joinG a b) ++ g0.drop i, (i : Int), ()) ∧ i ≤ g0.length) (fun v => g0.length - v.2.1.toNat) (fun o => o = K (g0.map (joinG a b), ()))
    ?_ n _ ⟨0, by simp, Nat.zero_le _⟩ (by simp only; omega)
  rintro v again ⟨i, rfl, hi⟩ hag
  unfold mail_Threads.s2
  simp only [decide_eq_true_eq]
  by_cases hlt : i < g0.length
  · have hlen : ((g0.take i).map (joinG a b) ++ g0.drop i).length = g0.length := by simp; omega
    have hti : ((g0.take i).map (joinG a b)).length = i := by simp; omega
    have hget : ((g0.take i).map (joinG a b) ++ g0.drop i).getD i 0 = g0.getD i 0 := by
      rw [List.getD_eq_getElem?_getD, List.getElem?_append_right (by omega), hti, Nat.sub_self, List.getElem?_drop, Nat.add_zero, ← List.getD_eq_getElem?_getD]
    have hnext : ∀ x, ((g0.take i).map (joinG a b) ++ g0.drop i).set i x = (g0.take i).map (joinG a b) ++ x :: g0.drop (i + 1) := by
      intro x
      rw [List.set_append_right _ _ (by omega), hti, Nat.sub_self, List.drop_eq_getElem_cons hlt]
      rfl
    have hsucc : (g0.take (i + 1)).map (joinG a b) ++ g0.drop (i + 1) = (g0.take i).map (joinG a b) ++ joinG a b (g0.getD i 0) :: g0.drop (i + 1) := by
      rw [List.take_add_one, List.getElem?_eq_getElem hlt, List.getD_eq_getElem?_getD, List.getElem?_eq_getElem hlt, List.map_append, List.append_assoc]
      rfl
    rw [if_pos (by omega), gate_pos (inR_of (by omega) (by omega)), gate_pos (inR_of (by omega) (by omega)), getI_nat, hget, w64 (by omega) (by omega)]
    by_cases h : g0.getD i 0 = b
    · rw [if_pos h, gate_pos (inR_of (by omega) (by omega)), gate_pos (inR_of (by omega) (by omega))]
      simp only [Int.toNat_natCast]
      rw [hnext]
      refine hag _ ⟨i + 1, ?_, by omega⟩ (by simp only; omega)
      rw [hsucc]
      unfold joinG
      rw [if_pos h]
      rfl
    · rw [if_neg h]
      refine hag _ ⟨i + 1, ?_, by omega⟩ (by simp only; omega)
      rw [hsucc]
      unfold joinG
      rw [if_neg h]
      have e : (g0.take i).map (joinG a b) ++ g0.drop i = (g0.take i).map (joinG a b) ++ g0.getD i 0 :: g0.drop (i + 1) := by
        rw [List.drop_eq_getElem_cons hlt, List.getD_eq_getElem?_getD, List.getElem?_eq_getElem hlt]
        rfl
      unfold joinG at e
      rw [e]
      rfl
  · rw [if_neg (by omega)]
    have : i = g0.length := by omega
    subst this
    simp

theorem refLoop {R : Type} (N : Nat) (s : R) (k0 : (List Int × List Int × Int × List Int × List Int × Bool × List Int × List Int × Unit) → R) (kr : (List Int × List Int × Int × List Int × List Int × Bool × List Int × List Int × Int × Unit) → R) (l : List Ml) (g : List Int)
    (i : Nat) (hl : l.length ≤ 1048576) (Q : R → Prop)
    (h0 : (∀ k, ¬ edgeM l i k) → Q (k0 (g, (l.getD i ml0).1, (l.getD i ml0).2.1, (l.getD i ml0).2.2.1, (l.getD i ml0).2.2.2.1, (l.getD i ml0).2.2.2.2.1, (l.getD i ml0).2.2.2.2.2.1, (l.getD i ml0).2.2.2.2.2.2, ())))
    (h1 : ∀ k : Nat, edgeM l i k → Q (kr (g, (l.getD i ml0).1, (l.getD i ml0).2.1, (l.getD i ml0).2.2.1, (l.getD i ml0).2.2.2.1, (l.getD i ml0).2.2.2.2.1, (l.getD i ml0).2.2.2.2.2.1, (l.getD i ml0).2.2.2.2.2.2, (k : Int), ()))) (n : Nat) (hn : l.length < n) :
    Q (iter (mail_Threads_i0_slices_IndexFunc.s0 N s k0 kr (l, (l.length : Int), ())) s n (g, (l.getD i ml0).1, (l.getD i ml0).2.1, (l.getD i ml0).2.2.1, (l.getD i ml0).2.2.2.1, (l.getD i ml0).2.2.2.2.1, (l.getD i ml0).2.2.2.2.2.1, (l.getD i ml0).2.2.2.2.2.2, (0 : Int), ())) := by
  have key : ∀ k, edgeM l i k ↔ (k < l.length ∧ (l.getD k ml0).2.2.1 = (l.getD i ml0).2.2.2.1 ∧ ∀ j, j < k → (l.getD j ml0).2.2.1 ≠ (l.getD i ml0).2.2.2.1) := fun k => Iff.rfl
  generalize l.getD i ml0 = m at *
  obtain ⟨a1, a2, a3, p, a5, a6, a7⟩ := m
  simp only at key h0 h1 ⊢
  refine iter_rule (fun v => ∃ i : Nat, v = (g, a1, a2, a3, p, a5, a6, a7, (i : Int), ()) ∧ i ≤ l.length ∧ ∀ j : Nat, j < i → (l.getD j ml0).2.2.1 ≠ p) (fun v => l.length - v.2.2.2.2.2.2.2.2.1.toNat) Q ?_ n _ ⟨0, rfl, Nat.zero_le _, fun j hj => absurd hj (Nat.not_lt_zero _)⟩ (by simp only; omega)
  rintro v again ⟨i, rfl, hi, hall⟩ hag
  unfold mail_Threads_i0_slices_IndexFunc.s0
  simp only [decide_eq_true_eq]
  by_cases hlt : i < l.length
  · rw [if_pos (by omega), gate_pos (inR_of (by omega) (by omega)), getI_nat]
    by_cases h : (l.getD i ml0).2.2.1 = p
    · rw [if_pos h]
      exact h1 i ((key i).2 ⟨hlt, h, hall⟩)
    · rw [if_neg h, w64 (by omega) (by omega)]
      refine hag _ ⟨i + 1, by simp, by omega, fun j hj => ?_⟩ (by simp only; omega)
      rcases Nat.lt_or_eq_of_le (Nat.le_of_lt_succ hj) with h2 | h2
      · exact hall j h2
      · subst h2; exact h
  · rw [if_neg (by omega)]
    exact h0 fun k hk => by
      have := (key k).1 hk
      exact hall k (by omega) this.2.1

theorem groupLoop {R : Type} (N : Nat) (s : R) (K : (List Int × Unit) → R) (l : List Ml) (hl : l.length ≤ 60) (hN : 1048577 < N) (Q : R → Prop) (g0 : List Int) (h0 : GInv l 0 g0) (h : ∀ g, GInv l l.length g → Q (K (g, ()))) (n : Nat) (hn : l.length < n) :
    Q (iter (mail_Threads.s1 N s K (l, l, (l.length : Int), ())) s n (g0, (0 : Int), ())) := by
  refine iter_rule (fun v => ∃ (g : List Int) (i : Nat), v = (g, (i : Int), ()) ∧ i ≤ l.length ∧ GInv l i g) (fun v => l.length - v.2.1.toNat) Q ?_ n _ ⟨g0, 0, rfl, Nat.zero_le _, h0⟩ (by simp only; omega)
  rintro v again ⟨g, i, rfl, hi, hg⟩ hag
  unfold mail_Threads.s1
  simp only [decide_eq_true_eq]
  by_cases hlt : i < l.length
  · rw [if_pos (by omega), gate_pos (inR_of (by omega) (by omega)), getI_nat]
    refine refLoop N s _ _ l g i (by omega) Q (fun hno => ?_) (fun k hk => ?_) N (by omega)
    · simp only
      rw [if_pos (by decide), w64 (by omega) (by omega)]
      exact hag _ ⟨g, i + 1, rfl, by omega, hg.skip hno⟩ (by simp only; omega)
    · have hkl := hk.1
      have hgl := hg.len
      simp only
      rw [if_neg (by omega)]
      rw [gate_pos (inR_of (by omega) (by omega)), gate_pos (inR_of (by omega) (by omega)), gate_pos (inR_of (by omega) (by omega)), gate_pos (inR_of (by omega) (by omega)), gate_pos (inR_of (by omega) (by omega)), gate_pos (inR_of (by omega) (by omega)), gate_pos (inR_of (by omega) (by omega)), gate_pos (inR_of (by omega) (by omega))]
      rw [relabel N s _ _ _ _ _ _ _ g (by omega) N (by omega)]
      simp only [getI_nat]
      rw [w64 (by omega) (by omega)]
      exact hag _ ⟨_, i + 1, rfl, by omega, hg.step hlt hk⟩ (by simp only; omega)
  · rw [if_neg (by omega)]
    have : i = l.length := by omega
    subst this
    exact h g hg

/-- those that bear a label -/
def memG (g : List Int) (n i : Nat) : List Int := ((List.range n).filter fun j => decide (g.getD j 0 = i)).map Int.ofNat

def outG (g : List Int) (n : Nat) : List (List Int) := ((List.range n).map (memG g n)).filter fun x => decide (x ≠ [])

theorem memLoop {R : Type} (N : Nat) (s : R) (K : (List (List Int) × List Int × Unit) → R) (g : List Int) (i : Nat) (c3 c4 : Int) (out : List (List Int)) (hg : g.length ≤ 60) (n : Nat) (hn : g.length < n) :
    iter (mail_Threads.s4 N s K (g, (i : Int), c3, c4, g, (g.length : Int), ())) s n (out, [], (0 : Int), ()) = K (out, memG g g.length i, ()) := by
  refine iter_rule (fun v => ∃ j : Nat, v = (out, memG g j i, (j : Int), ()) ∧ j ≤ g.length) (fun v => g.length - v.2.2.1.toNat) (fun o => o = K (out, memG g g.length i, ())) ?_ n _ ⟨0, rfl, Nat.zero_le _⟩ (by simp only; omega)
  rintro v again ⟨j, rfl, hj⟩ hag
  unfold mail_Threads.s4
  simp only [decide_eq_true_eq]
  have hml : (memG g j i).length ≤ j := by
    unfold memG
    rw [List.length_map]
    exact Nat.le_trans (List.length_filter_le _ _) (by simp)
  by_cases hlt : j < g.length
  · rw [if_pos (by omega), gate_pos (inR_of (by omega) (by omega)), getI_nat, w64 (by omega) (by omega)]
    have hs : memG g (j + 1) i = memG g j i ++ (if g.getD j 0 = i then [(j : Int)] else []) := by
      unfold memG
      rw [List.range_succ, List.filter_append, List.map_append]
      congr 1
      by_cases h : g.getD j 0 = i
      · rw [if_pos h, List.filter_cons, if_pos (by simpa using h)]; rfl
      · rw [if_neg h, List.filter_cons, if_neg (by simpa using h)]; rfl
    by_cases h : g.getD j 0 = i
    · rw [if_pos h, g_room (by simp only [List.length_cons, List.length_nil]; omega) (by simp only [List.length_cons, List.length_nil]; omega)]
      rw [if_pos h] at hs
      exact hag _ ⟨j + 1, by rw [hs]; rfl, by omega⟩ (by simp only; omega)
    · rw [if_neg h]
      rw [if_neg h, List.append_nil] at hs
      exact hag _ ⟨j + 1, by rw [hs]; rfl, by omega⟩ (by simp only; omega)
  · rw [if_neg (by omega)]
    have : j = g.length := by omega
    subst this
    rfl

theorem outLoop {R : Type} (N : Nat) (s : R) (K : (List (List Int) × Unit) → R) (g : List Int) (hg : g.length ≤ 60) (hN : 1048577 < N) (n : Nat) (hn : g.length < n) :
    iter (mail_Threads.s3 N s K ((g.length : Int), ())) s n (g, [], (0 : Int), ()) = K (outG g g.length, ()) := by
  refine iter_rule (fun v => ∃ i : Nat, v = (g, ((List.range i).map (memG g g.length)).filter (fun x => decide (x ≠ [])), (i : Int), ()) ∧ i ≤ g.length) (fun v => g.length - v.2.2.1.toNat) (fun o => o = K (outG g g.length, ())) ?_ n _ ⟨0, rfl, Nat.zero_le _⟩ (by simp only; omega)
  rintro v again ⟨i, rfl, hi⟩ hag
  unfold mail_Threads.s3
  simp only [decide_eq_true_eq]
  by_cases hlt : i < g.length
  · rw [if_pos (by omega), memLoop N s _ g i _ _ _ hg N (by omega)]
    have hol : (((List.range i).map (memG g g.length)).filter (fun x => decide (x ≠ []))).length ≤ i := Nat.le_trans (List.length_filter_le _ _) (by simp)
    have hs : ((List.range (i + 1)).map (memG g g.length)).filter (fun x => decide (x ≠ [])) = ((List.range i).map (memG g g.length)).filter (fun x => decide (x ≠ [])) ++ (if memG g g.length i ≠ [] then [memG g g.length i] else []) := by
      rw [List.range_succ, List.map_append, List.filter_append]
      congr 1
      by_cases h : memG g g.length i ≠ []
      · rw [if_pos h, List.map_cons, List.filter_cons, if_pos (by simpa using h)]; rfl
      · rw [if_neg h, List.map_cons, List.filter_cons, if_neg (by simpa using h)]; rfl
    generalize ((List.range i).map (memG g g.length)).filter (fun x => decide (x ≠ [])) = out at *
    generalize memG g g.length i = x at *
    simp only
    rw [w64 (by omega) (by omega)]
    by_cases h : x ≠ []
    · have hp := List.length_pos_iff.2 h
      rw [if_pos h] at hs
      rw [if_pos (by omega), g_room (by simp only [List.length_cons, List.length_nil]; omega) (by simp only [List.length_cons, List.length_nil]; omega)]
      exact hag _ ⟨i + 1, by rw [hs]; rfl, by omega⟩ (by simp only; omega)
    · rw [if_neg h, List.append_nil] at hs
      have hx : x = [] := by simpa using h
      rw [if_neg (by rw [hx]; simp)]
      exact hag _ ⟨i + 1, by rw [hs]; rfl, by omega⟩ (by simp only; omega)
  · rw [if_neg (by omega)]
    have : i = g.length := by omega
    subst this
    rfl

theorem ginv_zero (l : List Ml) : GInv l 0 ((List.range l.length).map Int.ofNat) := by
  have hget : ∀ a, a < l.length → ((List.range l.length).map Int.ofNat).getD a 0 = a := by
    intro a ha
    rw [List.getD_eq_getElem?_getD, List.getElem?_map, List.getElem?_range ha]
    rfl
  refine ⟨by simp, fun a ha => ?_, fun a ha => ?_, fun j k hj => absurd hj (Nat.not_lt_zero _), fun f hf a b ha hb h => ?_⟩
  · rw [hget a ha]; omega
  · rw [hget a ha, Int.toNat_natCast, hget a ha]
  · rw [hget a ha, hget b hb] at h
    have : a = b := by omega
    rw [this]

/-- the program's groups: by labels that are the same along every return, and nothing else is -/
theorem threads_ok (N : Nat) (l : List Ml) (hc : mail_Check N l = some 0) (hl : l.length ≤ 60) (hN : 1048577 < N) : ∃ g, GInv l l.length g ∧ mail_Threads N l = some (outG g l.length, 0) := by
  unfold mail_Threads
  rw [bindO_of hc, if_neg (by decide)]
  simp only [Int.toNat_natCast]
  rw [g_mk (by omega) (by omega) (by omega) (by omega)]
  have hrep : (List.replicate l.length (0 : Int)).length = l.length := by simp
  rw [initLoop N none _ l (List.replicate l.length 0) (by omega) N (by omega), hrep]
  simp only
  refine groupLoop N none _ l hl hN (fun o => ∃ g, GInv l l.length g ∧ o = some (outG g l.length, 0)) _ (ginv_zero l) (fun g hg => ⟨g, hg, ?_⟩) N (by omega)
  have hgl := hg.len
  simp only
  have := outLoop N none (fun x : List (List Int) × Unit => some (x.1, (0 : Int))) g (by omega) hN N (by omega)
  rw [hgl] at this
  exact this

theorem threads_bad (N : Nat) (l : List Ml) {r : Int} (hc : mail_Check N l = some r) (hr : r ≠ 0) : mail_Threads N l = some ([], r) := by
  unfold mail_Threads
  rw [bindO_of hc, if_pos (by rw [decide_eq_false hr]; rfl)]

theorem mapGet_putI (z : Int) : ∀ (m : List (Int × Bool)) (x : Int) (y : Bool), mapGet (k := .int .i64) (v := .bool) (mapPut (k := .int .i64) (v := .bool) m x y) z = if z = x then some y else mapGet (k := .int .i64) (v := .bool) m z := by
  intro m x y
  induction m with
  | nil =>
    simp only [mapPut, mapGet, keyEq, decide_eq_true_eq]
  | cons e r ih =>
    simp only [mapPut, keyEq, decide_eq_true_eq]
    by_cases h : x = e.1
    · rw [if_pos h]
      simp only [mapGet, keyEq, decide_eq_true_eq]
      by_cases h2 : z = x
      · rw [if_pos h2, if_pos h2]
      · rw [if_neg h2, if_neg h2, if_neg (by rw [← h]; exact h2)]
    · rw [if_neg h]
      simp only [mapGet, keyEq, decide_eq_true_eq]
      by_cases h2 : z = e.1
      · rw [if_pos h2, if_pos h2, if_neg (fun e2 => h (by rw [← e2, h2]))]
      · rw [if_neg h2, if_neg h2, ih]

def hasI (d : List (Int × Bool)) (j : Nat) : Bool := (mapGet (k := .int .i64) (v := .bool) d (j : Int)).getD false

theorem hasI_put (d : List (Int × Bool)) (i j : Nat) : hasI (mapPut (k := .int .i64) (v := .bool) d (i : Int) true) j = (decide (j = i) || hasI d j) := by
  unfold hasI
  rw [mapGet_putI]
  by_cases h : j = i
  · rw [if_pos (by omega), decide_eq_true h]; rfl
  · rw [if_neg (by omega), decide_eq_false h]; rfl

def nearM (l : List Ml) (a b : Nat) : Bool :=
  (!decide ((l.getD a ml0).2.2.2.1 = []) && decide ((l.getD a ml0).2.2.2.1 = (l.getD b ml0).2.2.1)) || (!decide ((l.getD b ml0).2.2.2.1 = []) && decide ((l.getD b ml0).2.2.2.1 = (l.getD a ml0).2.2.1))

theorem nearM_symm (l : List Ml) (a b : Nat) : nearM l a b = nearM l b a := by unfold nearM; rw [Bool.or_comm]

theorem near_eq (l : List Ml) (a b : Nat) (ha : a < l.length) (hb : b < l.length) :
    (gate (inR (a : Int) (l.length : Int)) (
      if (!decide ((getI ml0 l (a : Int)).2.2.2.1 = [])) = true then
        gate (inR (a : Int) (l.length : Int)) (
          gate (inR (b : Int) (l.length : Int)) (
            if (decide ((getI ml0 l (a : Int)).2.2.2.1 = (getI ml0 l (b : Int)).2.2.1)) = true then some true
            else gate (inR (b : Int) (l.length : Int)) (
              if (!decide ((getI ml0 l (b : Int)).2.2.2.1 = [])) = true then
                gate (inR (b : Int) (l.length : Int)) (gate (inR (a : Int) (l.length : Int)) (some (decide ((getI ml0 l (b : Int)).2.2.2.1 = (getI ml0 l (a : Int)).2.2.1))) none) none
              else some false) none) none) none
      else
        gate (inR (b : Int) (l.length : Int)) (
          if (!decide ((getI ml0 l (b : Int)).2.2.2.1 = [])) = true then
            gate (inR (b : Int) (l.length : Int)) (gate (inR (a : Int) (l.length : Int)) (some (decide ((getI ml0 l (b : Int)).2.2.2.1 = (getI ml0 l (a : Int)).2.2.1))) none) none
          else some false) none) none : Option Bool) = some (nearM l a b) := by
  have ga : inR (a : Int) (l.length : Int) = true := inR_of (by omega) (by omega)
  have gb : inR (b : Int) (l.length : Int) = true := inR_of (by omega) (by omega)
  simp only [gate_pos ga, gate_pos gb, getI_nat]
  unfold nearM
  cases decide ((l.getD a ml0).2.2.2.1 = []) <;> cases decide ((l.getD a ml0).2.2.2.1 = (l.getD b ml0).2.2.1) <;> cases decide ((l.getD b ml0).2.2.2.1 = []) <;> cases decide ((l.getD b ml0).2.2.2.1 = (l.getD a ml0).2.2.1) <;> rfl

theorem nodup_le : ∀ (n : Nat) (S : List Nat), S.Nodup → (∀ s ∈ S, s < n) → S.length ≤ n := by
  intro n
  induction n with
  | zero =>
    intro S _ h
    cases S with
    | nil => simp
    | cons x r => exact absurd (h x (by simp)) (Nat.not_lt_zero _)
  | succ n ih =>
    intro S hn h
    have h1 := ih (S.erase n) (hn.erase n) (fun s hs => by
      rw [hn.mem_erase_iff] at hs
      have := h s hs.2
      omega)
    have := List.length_erase (a := n) (l := S)
    split at this <;> omega

/-- what the round of one adds -/
def newM (l : List Ml) (d : List (Int × Bool)) (a j : Nat) : List Nat := (List.range j).filter fun x => !hasI d x && nearM l a x

theorem newM_succ (l : List Ml) (d : List (Int × Bool)) (a j : Nat) : newM l d a (j + 1) = newM l d a j ++ (if (!hasI d j && nearM l a j) = true then [j] else []) := by
  unfold newM
  rw [List.range_succ, List.filter_append]
  congr 1
  by_cases h : (!hasI d j && nearM l a j) = true
  · rw [if_pos h, List.filter_cons, if_pos h]; rfl
  · rw [if_neg h, List.filter_cons, if_neg h]; rfl

theorem newM_len (l : List Ml) (d : List (Int × Bool)) (a j : Nat) : (newM l d a j).length ≤ j := Nat.le_trans (List.length_filter_le _ _) (by simp)

theorem newM_mem {l : List Ml} {d : List (Int × Bool)} {a j x : Nat} : x ∈ newM l d a j ↔ x < j ∧ hasI d x = false ∧ nearM l a x = true := by
  unfold newM
  rw [List.mem_filter, List.mem_range]
  simp

theorem scanLoop {R : Type} (N : Nat) (s : R) (K : (List (Int × Bool) × List (List Int) × List Int × List Ml × Unit) → R) (l : List Ml) (hl : l.length ≤ 60) (c2 c3 : Int) (d : List (Int × Bool)) (out : List (List Int)) (S : List Nat) (k : Nat) (hk : k < S.length)
    (hS : S.length ≤ 60) (ha : S.getD k 0 < l.length) (Q : R → Prop)
    (h : ∀ d', (∀ x, x < l.length → hasI d' x = (hasI d x || decide (x ∈ newM l d (S.getD k 0) l.length))) → Q (K (d', out, (S ++ newM l d (S.getD k 0) l.length).map Int.ofNat, l, ()))) (n : Nat) (hn : l.length < n) :
    Q (iter (wrackref2_Grouped.s2 N s K ((k : Int), c2, c3, (l.length : Int), ())) s n (d, out, S.map Int.ofNat, (0 : Int), l, ())) := by
  refine iter_rule (fun v => ∃ (d' : List (Int × Bool)) (j : Nat), v = (d', out, (S ++ newM l d (S.getD k 0) j).map Int.ofNat, (j : Int), l, ()) ∧ j ≤ l.length ∧ ∀ x, x < l.length → hasI d' x = (hasI d x || decide (x ∈ newM l d (S.getD k 0) j)))
    (fun v => l.length - v.2.2.2.1.toNat) Q ?_ n _ ⟨d, 0, by simp [newM], Nat.zero_le _, fun x _ => by simp [newM]⟩ (by simp only; omega)
  rintro v again ⟨d', j, rfl, hj, hd⟩ hag
  unfold wrackref2_Grouped.s2
  simp only
  have hnl := newM_len l d (S.getD k 0) j
  by_cases hlt : j < l.length
  · have hs := newM_succ l d (S.getD k 0) j
    have hdj := hd j hlt
    have hnj : j ∉ newM l d (S.getD k 0) j := fun h => by rw [newM_mem] at h; omega
    rw [decide_eq_false hnj, Bool.or_false] at hdj
    rw [if_pos (by simp only [decide_eq_true_eq]; omega), show (mapGet (k := .int .i64) (v := .bool) d' (j : Int)).getD false = hasI d' j from rfl, hdj, w64 (by omega) (by omega)]
    have hgk : getI (0 : Int) ((S ++ newM l d (S.getD k 0) j).map Int.ofNat) (k : Int) = ((S.getD k 0 : Nat) : Int) := by
      rw [getI_nat, List.getD_eq_getElem?_getD, List.getElem?_map, List.getElem?_append_left hk, List.getD_eq_getElem?_getD, List.getElem?_eq_getElem hk]
      rfl
    cases hh : hasI d j with
    | true =>
      rw [hh] at hs
      rw [if_neg (by decide)]
      rw [if_neg (by simp), List.append_nil] at hs
      exact hag _ ⟨d', j + 1, by rw [hs]; rfl, by omega, by rw [hs]; exact hd⟩ (by simp only; omega)
    | false =>
      rw [hh] at hs
      rw [if_pos (by decide), hgk]
      have hgl : ((S ++ newM l d (S.getD k 0) j).map Int.ofNat).length = S.length + (newM l d (S.getD k 0) j).length := by simp
      rw [gate_pos (inR_of (by omega) (by omega)), gate_pos (inR_of (by omega) (by omega))]
      have hne := near_eq l (S.getD k 0) j ha hlt
      rw [bindO_of hne]
      cases hnr : nearM l (S.getD k 0) j with
      | true =>
        rw [hnr, if_pos (by decide)] at hs
        rw [if_pos rfl, g_room (by simp only [hgl, List.length_cons, List.length_nil]; omega) (by simp only [hgl, List.length_cons, List.length_nil]; omega)]
        refine hag _ ⟨mapPut (k := .int .i64) (v := .bool) d' (j : Int) true, j + 1, ?_, by omega, fun x hx => ?_⟩ (by simp only; omega)
        · rw [hs, ← List.append_assoc, List.map_append (l₁ := S ++ newM l d (S.getD k 0) j)]
          rfl
        · rw [hasI_put, hd x hx, hs]
          simp only [List.mem_append, List.mem_singleton]
          by_cases hxj : x = j
          · subst hxj; simp
          · simp [hxj]
      | false =>
        rw [hnr, if_neg (by decide), List.append_nil] at hs
        rw [if_neg (by decide)]
        exact hag _ ⟨d', j + 1, by rw [hs]; rfl, by omega, by rw [hs]; exact hd⟩ (by simp only; omega)
  · rw [if_neg (by simp only [decide_eq_true_eq]; omega)]
    have : j = l.length := by omega
    subst this
    exact h d' hd

/-- all labels that are the same for what belongs together -/
def CompatN {α : Type} (l : List Ml) (f : Nat → α) : Prop := ∀ a b, a < l.length → b < l.length → nearM l a b = true → f a = f b

/-- a group while it grows -/
structure SInv (l : List Ml) (d0 : List (Int × Bool)) (i : Nat) (d : List (Int × Bool)) (S : List Nat) (k : Nat) : Prop where
  nodup : S.Nodup
  mem : ∀ s ∈ S, s < l.length ∧ hasI d0 s = false
  has : ∀ x, x < l.length → hasI d x = (hasI d0 x || decide (x ∈ S))
  first : i ∈ S
  le : k ≤ S.length
  clos : ∀ p, p < k → ∀ x, x < l.length → nearM l (S.getD p 0) x = true → hasI d x = true
  univ : ∀ f : Nat → Int, CompatN l f → ∀ s ∈ S, f s = f i

theorem SInv.step {l : List Ml} {d0 : List (Int × Bool)} {i : Nat} {d d' : List (Int × Bool)} {S : List Nat} {k : Nat} (h : SInv l d0 i d S k) (hk : k < S.length) (hd : ∀ x, x < l.length → hasI d' x = (hasI d x || decide (x ∈ newM l d (S.getD k 0) l.length))) :
    SInv l d0 i d' (S ++ newM l d (S.getD k 0) l.length) (k + 1) := by
  have hsk : S.getD k 0 ∈ S := by
    rw [List.getD_eq_getElem?_getD, List.getElem?_eq_getElem hk]
    exact List.getElem_mem hk
  have hnew : ∀ x, x ∈ newM l d (S.getD k 0) l.length → x < l.length ∧ hasI d0 x = false ∧ x ∉ S ∧ nearM l (S.getD k 0) x = true := by
    intro x hx
    rw [newM_mem] at hx
    obtain ⟨h1, h2, h3⟩ := hx
    have := h.has x h1
    rw [h2] at this
    have := this.symm
    rw [Bool.or_eq_false_iff] at this
    exact ⟨h1, this.1, of_decide_eq_false this.2, h3⟩
  refine ⟨?_, ?_, ?_, List.mem_append_left _ h.first, by rw [List.length_append]; omega, ?_, ?_⟩
  · rw [List.nodup_append]
    refine ⟨h.nodup, List.Nodup.sublist List.filter_sublist List.nodup_range, fun a ha b hb e => ?_⟩
    subst e
    exact (hnew a hb).2.2.1 ha
  · intro s hs
    rcases List.mem_append.1 hs with h1 | h1
    · exact h.mem s h1
    · exact ⟨(hnew s h1).1, (hnew s h1).2.1⟩
  · intro x hx
    rw [hd x hx, h.has x hx]
    simp only [List.mem_append]
    rw [Bool.or_assoc, Bool.decide_or]
  · intro p hp x hx hn
    rw [hd x hx]
    rcases Nat.lt_or_eq_of_le (Nat.le_of_lt_succ hp) with h1 | h1
    · have e : (S ++ newM l d (S.getD k 0) l.length).getD p 0 = S.getD p 0 := by
        rw [List.getD_eq_getElem?_getD, List.getElem?_append_left (by omega), ← List.getD_eq_getElem?_getD]
      rw [e] at hn
      rw [h.clos p h1 x hx hn, Bool.true_or]
    · subst h1
      have e : (S ++ newM l d (S.getD p 0) l.length).getD p 0 = S.getD p 0 := by
        rw [List.getD_eq_getElem?_getD, List.getElem?_append_left (by omega), ← List.getD_eq_getElem?_getD]
      rw [e] at hn
      cases hh : hasI d x with
      | true => rfl
      | false =>
        rw [Bool.false_or, decide_eq_true_eq, newM_mem]
        exact ⟨hx, hh, hn⟩
  · intro f hf s hs
    rcases List.mem_append.1 hs with h1 | h1
    · exact h.univ f hf s h1
    · obtain ⟨g1, _, _, g4⟩ := hnew s h1
      rw [← hf _ _ (h.mem _ hsk).1 g1 g4]
      exact h.univ f hf _ hsk

theorem growLoop {R : Type} (N : Nat) (s : R) (K : (List (Int × Bool) × List (List Int) × List Int × List Ml × Unit) → R) (l : List Ml) (hl : l.length ≤ 60) (hN : 1048577 < N) (c1 c2 : Int) (d0 d : List (Int × Bool)) (i : Nat) (out : List (List Int)) (S : List Nat) (h0 : SInv l d0 i d S 0) (Q : R → Prop)
    (h : ∀ d' S', SInv l d0 i d' S' S'.length → Q (K (d', out, S'.map Int.ofNat, l, ()))) (n : Nat) (hn : l.length < n) :
    Q (iter (wrackref2_Grouped.s1 N s K (c1, c2, ())) s n (d, out, S.map Int.ofNat, (0 : Int), l, ())) := by
  refine iter_rule (fun v => ∃ (d' : List (Int × Bool)) (S' : List Nat) (k : Nat), v = (d', out, S'.map Int.ofNat, (k : Int), l, ()) ∧ SInv l d0 i d' S' k) (fun v => l.length - v.2.2.2.1.toNat) Q ?_ n _ ⟨d, S, 0, rfl, h0⟩ (by simp only; omega)
  rintro v again ⟨d', S', k, rfl, hi⟩ hag
  have hle := nodup_le l.length S' hi.nodup fun s hs => (hi.mem s hs).1
  unfold wrackref2_Grouped.s1
  simp only [decide_eq_true_eq, List.length_map]
  by_cases hlt : k < S'.length
  · have hsk : S'.getD k 0 ∈ S' := by
      rw [List.getD_eq_getElem?_getD, List.getElem?_eq_getElem hlt]
      exact List.getElem_mem hlt
    rw [if_pos (by omega)]
    refine scanLoop N s _ l hl _ _ d' out S' k hlt (by omega) (hi.mem _ hsk).1 Q (fun d2 h2 => ?_) N (by omega)
    simp only
    rw [w64 (by omega) (by omega)]
    exact hag _ ⟨d2, _, k + 1, rfl, hi.step hlt h2⟩ (by simp only; omega)
  · rw [if_neg (by omega)]
    have : k = S'.length := by have := hi.le; omega
    subst this
    exact h d' S' hi

/-- the groups by labels -/
def memD (D : Nat → Option Nat) (n c : Nat) : List Int := ((List.range n).filter fun j => decide (D j = some c)).map Int.ofNat

def outD (D : Nat → Option Nat) (n i : Nat) : List (List Int) := ((List.range i).filter fun c => decide (D c = some c)).map (memD D n)

structure DInv (l : List Ml) (i : Nat) (d : List (Int × Bool)) (D : Nat → Option Nat) : Prop where
  has : ∀ x, x < l.length → hasI d x = (D x).isSome
  low : ∀ x c, x < l.length → D x = some c → c < i ∧ c ≤ x ∧ D c = some c
  all : ∀ x, x < i → (D x).isSome = true
  clos : ∀ a b, a < l.length → b < l.length → nearM l a b = true → ∀ c, D a = some c → D b = some c
  univ : ∀ f : Nat → Int, CompatN l f → ∀ x c, x < l.length → D x = some c → f x = f c

theorem sort_members (S : List Nat) (n : Nat) (p : Nat → Bool) (hn : S.Nodup) (hm : ∀ x, x ∈ S ↔ x < n ∧ p x = true) : sortInts (S.map Int.ofNat) = ((List.range n).filter p).map Int.ofNat := by
  unfold sortInts
  have hperm : ((List.range n).filter p).Perm S := by
    refine (List.perm_ext_iff_of_nodup (List.Nodup.sublist List.filter_sublist List.nodup_range) hn).2 fun x => ?_
    rw [List.mem_filter, List.mem_range]
    exact (hm x).symm
  have hsorted := List.pairwise_mergeSort (le := fun (x y : Int) => decide (x ≤ y)) (fun a b c h1 h2 => by simp at h1 h2 ⊢; omega) (fun a b => by simp; omega) (S.map Int.ofNat)
  refine List.Perm.eq_of_pairwise (le := fun x y : Int => x ≤ y) (fun a b _ _ h1 h2 => by omega) (hsorted.imp fun h => by simpa using h) ?_ ((List.mergeSort_perm _ _).trans (hperm.map Int.ofNat).symm)
  rw [List.pairwise_map]
  exact ((List.pairwise_lt_range (n := n)).filter p).imp fun h => by
    have := Nat.le_of_lt h
    exact Int.ofNat_le.2 this

theorem DInv.skip {l : List Ml} {i : Nat} {d : List (Int × Bool)} {D : Nat → Option Nat} (h : DInv l i d D) (hi : i < l.length) (hd : hasI d i = true) : DInv l (i + 1) d D ∧ outD D l.length (i + 1) = outD D l.length i := by
  have h1 := h.has i hi
  rw [hd] at h1
  obtain ⟨c, hc⟩ := Option.isSome_iff_exists.1 h1.symm
  have hlow := h.low i c hi hc
  refine ⟨⟨h.has, fun x c hx hc => ?_, fun x hx => ?_, h.clos, h.univ⟩, ?_⟩
  · have := h.low x c hx hc
    exact ⟨by omega, this.2⟩
  · rcases Nat.lt_or_eq_of_le (Nat.le_of_lt_succ hx) with h2 | h2
    · exact h.all x h2
    · rw [h2, hc]; rfl
  · unfold outD
    rw [List.range_succ, List.filter_append, List.filter_cons, if_neg (by
      simp only [decide_eq_true_eq]
      intro e
      rw [hc] at e
      have := Option.some.inj e
      omega)]
    simp

theorem DInv.step {l : List Ml} {i : Nat} {d0 d : List (Int × Bool)} {D : Nat → Option Nat} {S : List Nat} (h : DInv l i d0 D) (hi : i < l.length) (hs : SInv l d0 i d S S.length) :
    DInv l (i + 1) d (fun x => if x ∈ S then some i else D x) ∧ outD (fun x => if x ∈ S then some i else D x) l.length (i + 1) = outD D l.length i ++ [sortInts (S.map Int.ofNat)] := by
  have hno : ∀ x, x ∈ S → D x = none := by
    intro x hx
    have h1 := h.has x (hs.mem x hx).1
    rw [(hs.mem x hx).2] at h1
    cases hd : D x with
    | none => rfl
    | some c => rw [hd] at h1; cases h1
  have hge : ∀ x, x ∈ S → i ≤ x := by
    intro x hx
    rcases Nat.lt_or_ge x i with h1 | h1
    · have := h.all x h1
      rw [hno x hx] at this
      cases this
    · exact h1
  refine ⟨⟨fun x hx => ?_, fun x c hx hc => ?_, fun x hx => ?_, fun a b ha hb hn c hc => ?_, fun f hf x c hx hc => ?_⟩, ?_⟩
  · rw [hs.has x hx, h.has x hx]
    by_cases hm : x ∈ S
    · rw [if_pos hm, decide_eq_true hm, Bool.or_true]; rfl
    · rw [if_neg hm, decide_eq_false hm, Bool.or_false]
  · by_cases hm : x ∈ S
    · rw [if_pos hm] at hc
      have := Option.some.inj hc
      subst this
      exact ⟨Nat.lt_succ_self _, hge x hm, by rw [if_pos hs.first]⟩
    · rw [if_neg hm] at hc
      have hl := h.low x c hx hc
      refine ⟨by omega, hl.2.1, ?_⟩
      rw [if_neg (fun hm2 => by rw [hno c hm2] at hl; cases hl.2.2)]
      exact hl.2.2
  · by_cases hm : x ∈ S
    · rw [if_pos hm]; rfl
    · rw [if_neg hm]
      rcases Nat.lt_or_eq_of_le (Nat.le_of_lt_succ hx) with h2 | h2
      · exact h.all x h2
      · rw [h2] at hm; exact absurd hs.first hm
  · by_cases hm : a ∈ S
    · rw [if_pos hm] at hc
      obtain ⟨p, hp, e⟩ := List.getElem_of_mem hm
      have hcl := hs.clos p hp b hb (by rw [List.getD_eq_getElem?_getD, List.getElem?_eq_getElem hp]; simp only [Option.getD_some]; rw [e]; exact hn)
      rw [hs.has b hb, Bool.or_eq_true, decide_eq_true_eq] at hcl
      rcases hcl with h1 | h1
      · rw [h.has b hb] at h1
        obtain ⟨q, hq⟩ := Option.isSome_iff_exists.1 h1
        have := h.clos b a hb ha (by rw [nearM_symm]; exact hn) q hq
        rw [hno a hm] at this
        cases this
      · rw [if_pos h1]; exact hc
    · rw [if_neg hm] at hc
      have := h.clos a b ha hb hn c hc
      rw [if_neg (fun hm2 => by rw [hno b hm2] at this; cases this)]
      exact this
  · by_cases hm : x ∈ S
    · rw [if_pos hm] at hc
      rw [← Option.some.inj hc]
      exact hs.univ f hf x hm
    · rw [if_neg hm] at hc
      exact h.univ f hf x c hx hc
  · unfold outD
    rw [List.range_succ, List.filter_append, List.map_append]
    congr 1
    · have e1 : (List.range i).filter (fun c => decide ((if c ∈ S then some i else D c) = some c)) = (List.range i).filter fun c => decide (D c = some c) := by
        apply List.filter_congr
        intro c hc
        have hci := List.mem_range.1 hc
        rw [if_neg (fun hm => by have := hge c hm; omega)]
      rw [e1]
      apply List.map_congr_left
      intro c hc
      have hci := List.mem_range.1 (List.mem_filter.1 hc).1
      unfold memD
      congr 1
      apply List.filter_congr
      intro j hj
      show decide ((if j ∈ S then some i else D j) = some c) = decide (D j = some c)
      by_cases hm : j ∈ S
      · rw [if_pos hm, hno j hm]
        rw [decide_eq_false (show ¬ (some i = some c) by intro e; have := Option.some.inj e; omega), decide_eq_false (by intro e; cases e)]
      · rw [if_neg hm]
    · rw [List.filter_cons, if_pos (by simp only [decide_eq_true_eq]; rw [if_pos hs.first])]
      simp only [List.filter_nil, List.map_cons, List.map_nil]
      rw [sort_members S l.length (fun j => decide ((if j ∈ S then some i else D j) = some i)) hs.nodup (fun x => by
        simp only [decide_eq_true_eq]
        constructor
        · intro hm; exact ⟨(hs.mem x hm).1, by rw [if_pos hm]⟩
        · rintro ⟨h1, h2⟩
          by_cases hm : x ∈ S
          · exact hm
          · rw [if_neg hm] at h2
            have := (h.low x i h1 h2).1
            omega)]
      rfl

theorem sInv_zero {l : List Ml} {i : Nat} {d : List (Int × Bool)} (hi : i < l.length) (hd : hasI d i = false) : SInv l d i (mapPut (k := .int .i64) (v := .bool) d (i : Int) true) [i] 0 := by
  refine ⟨by simp, fun s hs => ?_, fun x hx => ?_, by simp, by simp, fun p hp => absurd hp (Nat.not_lt_zero _), fun f hf s hs => ?_⟩
  · simp only [List.mem_singleton] at hs; subst hs; exact ⟨hi, hd⟩
  · rw [hasI_put, Bool.or_comm]
    congr 1
    simp
  · simp only [List.mem_singleton] at hs; rw [hs]

theorem outD_len (D : Nat → Option Nat) (n i : Nat) : (outD D n i).length ≤ i := by
  unfold outD
  rw [List.length_map]
  exact Nat.le_trans (List.length_filter_le _ _) (by simp)

theorem grouped_ok (N : Nat) (l : List Ml) (hl : l.length ≤ 60) (hN : 1048577 < N) : ∃ d D, DInv l l.length d D ∧ wrackref2_Grouped N l = some (outD D l.length l.length) := by
  unfold wrackref2_Grouped
  refine iter_rule (fun v => ∃ (d : List (Int × Bool)) (D : Nat → Option Nat) (i : Nat), v = (d, outD D l.length i, (i : Int), l, ()) ∧ i ≤ l.length ∧ DInv l i d D) (fun v => l.length - v.2.2.1.toNat)
    (fun o => ∃ d D, DInv l l.length d D ∧ o = some (outD D l.length l.length)) ?_ N _ ⟨[], fun _ => none, 0, rfl, Nat.zero_le _, ⟨fun _ _ => rfl, fun _ _ _ h => (by cases h), fun _ h => absurd h (Nat.not_lt_zero _), fun _ _ _ _ _ _ h => (by cases h), fun _ _ _ _ _ h => (by cases h)⟩⟩ (by simp only; omega)
  rintro v again ⟨d, D, i, rfl, hi, hD⟩ hag
  unfold wrackref2_Grouped.s0
  simp only [decide_eq_true_eq]
  by_cases hlt : i < l.length
  · rw [if_pos (by omega), show (mapGet (k := .int .i64) (v := .bool) d (i : Int)).getD false = hasI d i from rfl, w64 (by omega) (by omega)]
    cases hh : hasI d i with
    | true =>
      obtain ⟨h1, h2⟩ := hD.skip hlt hh
      rw [if_pos rfl]
      exact hag _ ⟨d, D, i + 1, by rw [h2]; rfl, by omega, h1⟩ (by simp only; omega)
    | false =>
      rw [if_neg (by decide)]
      refine growLoop N none _ l hl hN _ _ d _ i _ [i] (sInv_zero hlt hh) (fun o => ∃ d D, DInv l l.length d D ∧ o = some (outD D l.length l.length)) (fun d' S hs => ?_) N (by omega)
      obtain ⟨h1, h2⟩ := hD.step hlt hs
      have hol := outD_len D l.length i
      have hsl := nodup_le l.length S hs.nodup fun s h => (hs.mem s h).1
      simp only
      rw [g_dec (by rw [List.length_map]; omega), g_room (by simp only [List.length_cons, List.length_nil]; omega) (by simp only [List.length_cons, List.length_nil]; omega), ← h2]
      exact hag _ ⟨d', _, i + 1, rfl, by omega, h1⟩ (by simp only; omega)
  · rw [if_neg (by omega)]
    have : i = l.length := by omega
    subst this
    exact ⟨d, D, hD, rfl⟩

theorem ids_ok {l : List Ml} (h : ResM l 0) : (∀ k, k < l.length → (l.getD k ml0).2.2.1 ≠ []) ∧ ∀ j k, j < l.length → k < l.length → (l.getD j ml0).2.2.1 = (l.getD k ml0).2.2.1 → j = k := by
  have hone := (resM_zero h).2
  have hall : ∀ j, j < l.length → mailAt l j = 0 := by
    rcases h with ⟨_, h⟩ | ⟨_, h⟩
    · exact absurd h (by decide)
    · rcases h with ⟨i, _, _, h6, h7⟩ | ⟨h6, _⟩
      · exact absurd h7.symm h6
      · exact h6
  have hlt : ∀ j k, j < k → k < l.length → (l.getD j ml0).2.2.1 ≠ (l.getD k ml0).2.2.1 := by
    intro j k hjk hk e
    have h1 := hall k hk
    unfold mailAt at h1
    rw [if_pos (hone _ (ml_mem hk))] at h1
    have : seenM l k (l.getD k ml0).2.2.1 = true := by
      unfold seenM
      rw [List.any_eq_true]
      refine ⟨l.getD j ml0, ?_, by simpa using e⟩
      rw [List.mem_take_iff_getElem]
      refine ⟨j, by omega, ?_⟩
      rw [List.getD_eq_getElem?_getD, List.getElem?_eq_getElem (by omega)]
      rfl
    rw [if_pos this] at h1
    cases h1
  refine ⟨fun k hk => (nameB_ne (oneI_text (hone _ (ml_mem hk))).2.1), fun j k hj hk e => ?_⟩
  rcases Nat.lt_trichotomy j k with h1 | h1 | h1
  · exact absurd e (hlt j k h1 hk)
  · exact h1
  · exact absurd e.symm (hlt k j h1 hj)
where
  nameB_ne {s : List Int} (h : nameB s = true) : s ≠ [] := by
    intro e; subst e; cases h

theorem near_edge {l : List Ml} (h : ResM l 0) {a b : Nat} (ha : a < l.length) (hb : b < l.length) : nearM l a b = true ↔ edgeM l a b ∨ edgeM l b a := by
  obtain ⟨h1, h2⟩ := ids_ok h
  have key : ∀ a b, a < l.length → b < l.length → ((!decide ((l.getD a ml0).2.2.2.1 = []) && decide ((l.getD a ml0).2.2.2.1 = (l.getD b ml0).2.2.1)) = true ↔ edgeM l a b) := by
    intro a b ha hb
    simp only [Bool.and_eq_true, Bool.not_eq_true', decide_eq_false_iff_not, decide_eq_true_eq]
    constructor
    · rintro ⟨_, e⟩
      exact ⟨hb, e.symm, fun j hj e2 => by
        have := h2 j b (by omega) hb (by rw [e2, e])
        omega⟩
    · rintro ⟨_, e, _⟩
      exact ⟨by rw [← e]; exact h1 b hb, e.symm⟩
  unfold nearM
  rw [Bool.or_eq_true, key a b ha hb, key b a hb ha]

theorem groups_same {l : List Ml} (h : ResM l 0) {g : List Int} (hg : GInv l l.length g) {d : List (Int × Bool)} {D : Nat → Option Nat} (hD : DInv l l.length d D) : outG g l.length = outD D l.length l.length := by
  have hgn : CompatN l (fun j => g.getD j 0) := by
    intro a b ha hb hn
    rcases (near_edge h ha hb).1 hn with e | e
    · exact hg.edge a b ha e
    · exact (hg.edge b a hb e).symm
  have hsome : ∀ j, j < l.length → ∃ c, D j = some c := fun j hj => Option.isSome_iff_exists.1 (hD.all j hj)
  have hDc : Compat l (fun j => (((D j).getD 0 : Nat) : Int)) := by
    intro a b ha e
    have hn : nearM l a b = true := (near_edge h ha e.1).2 (Or.inl e)
    obtain ⟨c, hc⟩ := hsome a ha
    have := hD.clos a b ha e.1 hn c hc
    simp only [hc, this]
  have hlab : ∀ j, j < l.length → D j = some (g.getD j 0).toNat := by
    intro j hj
    obtain ⟨c, hc⟩ := hsome j hj
    obtain ⟨_, c2, c3⟩ := hD.low j c hj hc
    have e1 : g.getD j 0 = g.getD c 0 := hD.univ _ hgn j c hj hc
    have l1 := hg.low j hj
    have l2 := hg.low c (by omega)
    have e2 := hg.idem j hj
    -- the label's own label
    have ha : (g.getD j 0).toNat < l.length := by omega
    have e3 := hg.univ _ hDc (g.getD j 0).toNat j ha hj e2
    obtain ⟨q, hq⟩ := hsome _ ha
    have l3 := hD.low _ q ha hq
    simp only [hq, hc, Option.getD_some] at e3
    have : q = c := by omega
    subst this
    rw [hc]
    congr 1
    omega
  have hmem : ∀ c, memG g l.length c = memD D l.length c := by
    intro c
    unfold memG memD
    congr 1
    apply List.filter_congr
    intro j hj
    have hj := List.mem_range.1 hj
    have l1 := hg.low j hj
    rw [hlab j hj]
    rw [Bool.eq_iff_iff, decide_eq_true_eq, decide_eq_true_eq]
    constructor
    · intro e; congr 1; omega
    · intro e; have := Option.some.inj e; omega
  unfold outG outD
  rw [List.filter_map]
  have e1 : (List.range l.length).filter ((fun x => decide (x ≠ [])) ∘ memG g l.length) = (List.range l.length).filter fun c => decide (D c = some c) := by
    apply List.filter_congr
    intro c hc
    have hc := List.mem_range.1 hc
    simp only [Function.comp, hmem c]
    rw [Bool.eq_iff_iff, decide_eq_true_eq, decide_eq_true_eq]
    constructor
    · intro hne
      obtain ⟨x, hx⟩ := List.exists_mem_of_ne_nil _ hne
      unfold memD at hx
      rw [List.mem_map] at hx
      obtain ⟨j, hj, _⟩ := hx
      rw [List.mem_filter, decide_eq_true_eq] at hj
      exact (hD.low j c (List.mem_range.1 hj.1) hj.2).2.2
    · intro e hn
      have : Int.ofNat c ∈ memD D l.length c := by
        unfold memD
        rw [List.mem_map]
        exact ⟨c, by rw [List.mem_filter, decide_eq_true_eq]; exact ⟨List.mem_range.2 hc, e⟩, rfl⟩
      rw [hn] at this
      cases this
  rw [e1]
  apply List.map_congr_left
  intro c _
  exact hmem c

def leftM (l : List Ml) : List Ml := l.filter fun m => !m.2.2.2.2.1

theorem purge1_eq (N : Nat) (m : Ml) : mail_Purge_1 N m = some m.2.2.2.2.1 := rfl

theorem leftM_succ (l : List Ml) {j : Nat} (h : j < l.length) : leftM (l.take (j + 1)) = leftM (l.take j) ++ (if (l.getD j ml0).2.2.2.2.1 = true then [] else [l.getD j ml0]) := by
  unfold leftM
  rw [List.take_add_one, List.filter_append, List.getElem?_eq_getElem h, List.getD_eq_getElem?_getD, List.getElem?_eq_getElem h]
  simp only [Option.toList_some, Option.getD_some, List.filter_cons, List.filter_nil]
  cases l[j].2.2.2.2.1 <;> rfl

/-- the rounds of DeleteFunc behind the first that goes -/
theorem shiftLoop {R : Type} (N : Nat) (s : R) (K : (List Ml × Int × Unit) → R) (l : List Ml) (hl : l.length ≤ 60) (Q : R → Prop) (h : ∀ (g : List Ml) (i : Nat), i ≤ l.length → g.length = l.length → g.take i = leftM l → Q (K (g, (i : Int), ()))) (g0 : List Ml) (i0 j0 : Nat)
    (h1 : i0 ≤ j0) (h2 : j0 ≤ l.length) (h3 : g0.length = l.length) (h4 : g0.take i0 = leftM (l.take j0)) (h5 : g0.drop j0 = l.drop j0) (n : Nat) (hn : l.length < n) :
    Q (iter (mail_Purge_i0_slices_DeleteFunc.s0 N s K ()) s n (g0, (i0 : Int), (j0 : Int), ())) := by
  refine iter_rule (fun v => ∃ (g : List Ml) (i j : Nat), v = (g, (i : Int), (j : Int), ()) ∧ i ≤ j ∧ j ≤ l.length ∧ g.length = l.length ∧ g.take i = leftM (l.take j) ∧ g.drop j = l.drop j) (fun v => l.length - v.2.2.1.toNat) Q ?_ n _ ⟨g0, i0, j0, rfl, h1, h2, h3, h4, h5⟩ (by simp only; omega)
  rintro v again ⟨g, i, j, rfl, hij, hj, hg, ht, hd⟩ hag
  unfold mail_Purge_i0_slices_DeleteFunc.s0
  simp only [decide_eq_true_eq]
  by_cases hlt : j < l.length
  · have hgj : g.getD j ml0 = l.getD j ml0 := by
      have := congrArg (fun x : List Ml => x.getD 0 ml0) hd
      simp only [List.getD_eq_getElem?_getD, List.getElem?_drop, Nat.add_zero] at this
      rw [List.getD_eq_getElem?_getD, List.getD_eq_getElem?_getD, this]
    have hd' : g.drop (j + 1) = l.drop (j + 1) := by
      have := congrArg (List.drop 1) hd
      rw [List.drop_drop, List.drop_drop] at this
      exact this
    have hs := leftM_succ l hlt
    rw [if_pos (by omega), gate_pos (inR_of (by omega) (by omega)), gate_pos (inR_of (by omega) (by omega)), getI_nat, hgj, bindO_of (purge1_eq N _), w64 (by omega) (by omega), w64 (by omega) (by omega)]
    cases hgn : (l.getD j ml0).2.2.2.2.1 with
    | true =>
      rw [hgn, if_pos rfl, List.append_nil] at hs
      rw [if_neg (by decide)]
      exact hag _ ⟨g, i, j + 1, by simp, by omega, by omega, hg, by rw [ht, hs], hd'⟩ (by simp only; omega)
    | false =>
      rw [hgn, if_neg (by decide)] at hs
      rw [if_pos (by decide), gate_pos (inR_of (by omega) (by omega)), gate_pos (inR_of (by omega) (by omega))]
      simp only [Int.toNat_natCast]
      refine hag _ ⟨g.set i (l.getD j ml0), i + 1, j + 1, rfl, by omega, by omega, by rw [List.length_set]; exact hg, ?_, ?_⟩ (by simp only; omega)
      · rw [hs, ← ht, List.take_add_one, List.getElem?_set_self (by omega)]
        rw [List.take_set_of_le (by omega)]
        rfl
      · rw [List.drop_set_of_lt (by omega), hd']
  · rw [if_neg (by omega)]
    have : j = l.length := by omega
    subst this
    rw [List.take_length] at ht
    exact h g i hij hg ht

theorem firstLoop {R : Type} (N : Nat) (s : R) (k0 : (List Ml × Unit) → R) (kr : (List Ml × Int × Unit) → R) (l : List Ml) (hl : l.length ≤ 60) (Q : R → Prop)
    (h0 : leftM l = l → Q (k0 (l, ()))) (h1 : ∀ i, i < l.length → leftM (l.take (i + 1)) = l.take i → Q (kr (l, (i : Int), ()))) (n : Nat) (hn : l.length < n) :
    Q (iter (mail_Purge_i0_slices_DeleteFunc_i0_slices_IndexFunc.s0 N s k0 kr ((l.length : Int), ())) s n (l, (0 : Int), ())) := by
  refine iter_rule (fun v => ∃ i : Nat, v = (l, (i : Int), ()) ∧ i ≤ l.length ∧ leftM (l.take i) = l.take i) (fun v => l.length - v.2.1.toNat) Q ?_ n _ ⟨0, rfl, Nat.zero_le _, rfl⟩ (by simp only; omega)
  rintro v again ⟨i, rfl, hi, hall⟩ hag
  unfold mail_Purge_i0_slices_DeleteFunc_i0_slices_IndexFunc.s0
  simp only [decide_eq_true_eq]
  by_cases hlt : i < l.length
  · have hs := leftM_succ l hlt
    rw [if_pos (by omega), gate_pos (inR_of (by omega) (by omega)), gate_pos (inR_of (by omega) (by omega)), getI_nat, bindO_of (purge1_eq N _)]
    cases hgn : (l.getD i ml0).2.2.2.2.1 with
    | true =>
      rw [hgn, if_pos rfl, List.append_nil, hall] at hs
      rw [if_pos rfl]
      exact h1 i hlt hs
    | false =>
      rw [hgn, if_neg (by decide), hall] at hs
      rw [if_neg (by decide), w64 (by omega) (by omega)]
      refine hag _ ⟨i + 1, by simp, by omega, ?_⟩ (by simp only; omega)
      rw [hs, List.take_add_one, List.getElem?_eq_getElem hlt, List.getD_eq_getElem?_getD, List.getElem?_eq_getElem hlt]
      rfl
  · rw [if_neg (by omega)]
    have : i = l.length := by omega
    subst this
    rw [List.take_length] at hall
    exact h0 hall

theorem take_over {α : Type} (xs ys : List α) (i k : Nat) (h : i ≤ xs.length) : (over xs ys i k).take i = xs.take i := by
  unfold over
  rw [List.append_assoc, List.take_append_of_le_length (by rw [List.length_take]; omega), List.take_take, Nat.min_self]

theorem purge_ok (N : Nat) (l : List Ml) (hc : mail_Check N l = some 0) (hl : l.length ≤ 60) (hN : 1048577 < N) : mail_Purge N l = some (leftM l, 0) := by
  unfold mail_Purge
  rw [bindO_of hc, if_neg (by decide)]
  have hcl : slices_Clone_mail_Mail N l = some l := by
    unfold slices_Clone_mail_Mail
    simp only [List.length_nil, Nat.zero_add, List.nil_append]
    rw [g_room (by omega) (by omega)]
  rw [bindO_of hcl]
  refine firstLoop N none _ _ l hl (fun o => o = some (leftM l, 0)) (fun h => ?_) (fun i hi h => ?_) N (by omega)
  · simp only
    rw [if_pos (by decide), h]
  · simp only [decide_eq_true_eq]
    rw [if_neg (by omega), w64 (by omega) (by omega)]
    refine shiftLoop N none _ l hl (fun o => o = some (leftM l, 0)) (fun g k hk hg ht => ?_) l i (i + 1) (by omega) (by omega) rfl h.symm rfl N (by omega)
    simp only
    have hlen : ((g.length : Int) - (k : Int)).toNat = l.length - k := by omega
    rw [gate_pos (bounds_of (by omega) (by omega) (by omega))]
    simp only [hlen, Int.toNat_natCast]
    have hol : (over g (List.replicate (l.length - k) ([], ((0 : Int), ([], ([], (false, ([], []))))))) k (l.length - k)).length = l.length := by
      unfold over
      simp only [List.length_append, List.length_take, List.length_replicate, List.length_drop]
      omega
    rw [gate_pos (bounds_of (by omega) (by omega) (by omega)), mcut_take, take_over _ _ _ _ (by omega), ht]

theorem purge_bad (N : Nat) (l : List Ml) {r : Int} (hc : mail_Check N l = some r) (hr : r ≠ 0) : mail_Purge N l = some ([], r) := by
  unfold mail_Purge
  rw [bindO_of hc, if_pos (by rw [decide_eq_false hr]; rfl)]

def headI (m : Ml) : List Int := [109, 97, 105, 108, 32] ++ m.2.2.1 ++ [32] ++ m.1 ++ [32] ++ itoaI m.2.1 ++ [10]

def refI (m : Ml) : List Int := if m.2.2.2.1 = [] then [] else [114, 101, 102, 32] ++ m.2.2.2.1 ++ [10]

def goneI (m : Ml) : List Int := if m.2.2.2.2.1 = true then [103, 111, 110, 101, 10] else []

def aboutI (m : Ml) : List Int := [97, 98, 111, 117, 116, 32] ++ m.2.2.2.2.2.1 ++ [10]

def bodyI (t : List Int) : List Int := ((linesI t).map dotI).flatten

/-- what stands ahead of the text -/
def topI (m : Ml) : List Int := headI m ++ refI m ++ goneI m ++ aboutI m

def mailI (m : Ml) : List Int := topI m ++ bodyI m.2.2.2.2.2.2 ++ [46, 10]

def mboxI (l : List Ml) : List Int := l.flatMap mailI

theorem nDigits_le : ∀ (k u : Nat), u ≤ k → Go.Lib.nDigits u ≤ u + 1 := by
  intro k
  induction k with
  | zero => intro u hu; rw [Go.Lib.nDigits_small (by omega)]; omega
  | succ k ih =>
    intro u hu
    by_cases h : u < 10
    · rw [Go.Lib.nDigits_small h]; omega
    · rw [Go.Lib.nDigits_big h]
      have := ih (u / 10) (by omega)
      omega

theorem itoaI_len {n : Int} (h : 0 ≤ n) : (itoaI n).length ≤ n.toNat + 1 := by
  unfold itoaI Go.Lib.itoa
  rw [if_neg (by omega), List.length_map, Go.Lib.decDigits_length]
  exact nDigits_le _ _ (Nat.le_refl _)

theorem nameB_len {s : List Int} (h : nameB s = true) : s.length ≤ 12 ∧ s ≠ [] := by
  cases s with
  | nil => cases h
  | cons x r =>
    simp only [nameB, Bool.and_eq_true, decide_eq_true_eq] at h
    exact ⟨h.1, by simp⟩

theorem refB_len {s : List Int} (h : refB s = true) : s.length ≤ 12 := by
  unfold refB at h
  simp only [Bool.or_eq_true, decide_eq_true_eq] at h
  rcases h with h | h
  · rw [h]; simp
  · exact (nameB_len h).1

theorem bodyI_len (t : List Int) : (bodyI t).length ≤ 2 * t.length := by
  unfold bodyI
  have h1 := dots_len (linesI t)
  rw [mlines_flat] at h1
  have h2 := mlines_len t
  omega

/-- the lengths of what may be printed -/
structure Fits (m : Ml) : Prop where
  fr : m.1.length ≤ 12
  id : m.2.2.1.length ≤ 12
  rf : m.2.2.2.1.length ≤ 12
  ab : m.2.2.2.2.2.1.length ≤ 1048576
  tx : m.2.2.2.2.2.2.length ≤ 1048576
  tm : (itoaI m.2.1).length ≤ 4294967296

theorem fits_of {m : Ml} (h : oneI m = 0) (hs : Small m) : Fits m := by
  obtain ⟨h1, h2, h3, h4, h5, _⟩ := oneI_text h
  have := itoaI_len h4
  exact ⟨(nameB_len h1).1, (nameB_len h2).1, refB_len h3, hs.2.2.2.1, hs.2.2.2.2, by omega⟩

theorem dotsLoop {R : Type} (N : Nat) (s : R) (c : List Ml × Int × Int × Unit) (K : (List Int × Unit) → R) : ∀ (ls : List (List Int)) (acc : List Int), (∀ p ∈ ls, p ≠ []) → acc.length + ls.flatten.length + ls.length ≤ 8589934592 →
    foldR (mail_Print.r0 N s c) K ls (acc, ()) = K (acc ++ (ls.map dotI).flatten, ()) := by
  intro ls
  induction ls with
  | nil => intro acc _ _; simp [foldR]
  | cons p r ih =>
    intro acc hne hl
    simp only [List.flatten_cons, List.length_append, List.length_cons] at hl
    have hp := List.length_pos_iff.2 (hne p (by simp))
    rw [foldR]
    generalize foldR (mail_Print.r0 N s c) K r = again at *
    unfold mail_Print.r0
    simp only [decide_eq_true_eq]
    rw [gate_pos (inR_of (by omega) (by omega))]
    have hr := fun q hq => hne q (List.mem_cons_of_mem _ hq)
    cases p with
    | nil => exact absurd rfl (hne [] (by simp))
    | cons x t =>
      have e0 : getI 0 (x :: t) (0 : Int) = x := rfl
      rw [e0]
      simp only [List.length_cons] at hl
      by_cases h : x = 46
      · rw [if_pos h, g_room (by simp only [List.length_append, List.length_cons, List.length_nil]; omega) (by simp only [List.length_append, List.length_cons, List.length_nil]; omega), g_room (by simp only [List.length_append, List.length_cons, List.length_nil]; omega) (by simp only [List.length_append, List.length_cons, List.length_nil]; omega)]
        rw [ih _ hr (by simp only [List.length_append, List.length_cons, List.length_nil]; omega)]
        simp only [List.map_cons, dotI, if_pos h, List.flatten_cons, List.append_assoc, List.cons_append, List.nil_append]
      · rw [if_neg h, g_room (by simp only [List.length_append, List.length_cons, List.length_nil]; omega) (by simp only [List.length_append, List.length_cons, List.length_nil]; omega)]
        rw [ih _ hr (by simp only [List.length_append, List.length_cons, List.length_nil]; omega)]
        simp only [List.map_cons, dotI, if_neg h, List.flatten_cons, List.append_assoc, List.cons_append, List.nil_append]

theorem print_round {R : Type} (N : Nat) (s : R) (k0 : (List Int × Unit) → R) (kr : (List Int × Int × Unit) → R) (again : (Int × List Int × Unit) → R) (l : List Ml) (i : Nat) (acc : List Int) (hi : i < l.length) (hl : l.length ≤ 60) (hf : Fits (l.getD i ml0)) (ha : acc.length ≤ 65536) :
    mail_Print.s0 N s k0 kr (l, (l.length : Int), ()) again ((i : Int), acc, ()) =
      if 65536 < (acc ++ mailI (l.getD i ml0)).length then kr ([], 2, ()) else again (((i + 1 : Nat) : Int), acc ++ mailI (l.getD i ml0), ()) := by
  unfold mail_Print.s0
  simp only [decide_eq_true_eq]
  rw [if_pos (by omega), gate_pos (inR_of (by omega) (by omega)), getI_nat, w64 (by omega) (by omega)]
  generalize l.getD i ml0 = m at *
  obtain ⟨fr, tm, id, rf, gn, ab, tx⟩ := m
  obtain ⟨h1, h2, h3, h4, h5, h6⟩ := hf
  simp only at h1 h2 h3 h4 h5 h6 ⊢
  have hlf := mlines_flat tx
  have hll := mlines_len tx
  rw [g_dec (by simp only [List.length_append, List.length_cons, List.length_nil]; omega), g_dec (by simp only [List.length_append, List.length_cons, List.length_nil]; omega), g_dec (by simp only [List.length_append, List.length_cons, List.length_nil]; omega), g_dec (by simp only [List.length_append, List.length_cons, List.length_nil]; omega)]
  rw [bindO_of (show itoaF tm = some (itoaI tm) from rfl)]
  rw [g_dec (by simp only [List.length_append, List.length_cons, List.length_nil]; omega), g_dec (by simp only [List.length_append, List.length_cons, List.length_nil]; omega), g_room (by simp only [List.length_append, List.length_cons, List.length_nil]; omega) (by simp only [List.length_append, List.length_cons, List.length_nil]; omega)]
  have e1 : (if (!decide (rf = [])) = true then
      gate (decide ([114, 101, 102, 32].length + rf.length ≤ 140737488355328)) (gate (decide (([114, 101, 102, 32] ++ rf).length + [10].length ≤ 140737488355328))
        (gate (roomFor ((acc ++ (([109, 97, 105, 108, 32] ++ id ++ [32] ++ fr ++ [32] ++ itoaI tm) ++ [10])).length + (([114, 101, 102, 32] ++ rf) ++ [10]).length) 1)
          (some ((acc ++ (([109, 97, 105, 108, 32] ++ id ++ [32] ++ fr ++ [32] ++ itoaI tm) ++ [10])) ++ (([114, 101, 102, 32] ++ rf) ++ [10]), fr, tm, id, rf, gn, ab, tx, ())) none) none) none
      else some (acc ++ (([109, 97, 105, 108, 32] ++ id ++ [32] ++ fr ++ [32] ++ itoaI tm) ++ [10]), fr, tm, id, rf, gn, ab, tx, ()) : Option (List Int × List Int × Int × List Int × List Int × Bool × List Int × List Int × Unit)) =
      some (acc ++ (headI (fr, tm, id, rf, gn, ab, tx) ++ refI (fr, tm, id, rf, gn, ab, tx)), fr, tm, id, rf, gn, ab, tx, ()) := by
    unfold headI refI
    by_cases hr : rf = []
    · simp only [hr, decide_true, Bool.not_true, Bool.false_eq_true, if_false, if_true, List.append_nil]
    · rw [if_pos (by rw [decide_eq_false hr]; rfl), if_neg hr]
      rw [g_dec (by simp only [List.length_append, List.length_cons, List.length_nil]; omega), g_dec (by simp only [List.length_append, List.length_cons, List.length_nil]; omega), g_room (by simp only [List.length_append, List.length_cons, List.length_nil]; omega) (by simp only [List.length_append, List.length_cons, List.length_nil]; omega)]
      simp only [List.append_assoc]
  rw [bindO_of e1]
  have hh : (headI (fr, tm, id, rf, gn, ab, tx) ++ refI (fr, tm, id, rf, gn, ab, tx)).length ≤ 4294967400 := by
    unfold headI refI
    split <;> simp only [List.length_append, List.length_cons, List.length_nil] <;> omega
  generalize hhd : headI (fr, tm, id, rf, gn, ab, tx) ++ refI (fr, tm, id, rf, gn, ab, tx) = hd at *
  have e2 : (if gn = true then gate (roomFor ((acc ++ hd).length + [103, 111, 110, 101, 10].length) 1) (some ((acc ++ hd) ++ [103, 111, 110, 101, 10], fr, tm, id, rf, gn, ab, tx, ())) none
      else some (acc ++ hd, fr, tm, id, rf, gn, ab, tx, ()) : Option (List Int × List Int × Int × List Int × List Int × Bool × List Int × List Int × Unit)) = some (acc ++ (hd ++ goneI (fr, tm, id, rf, gn, ab, tx)), fr, tm, id, rf, gn, ab, tx, ()) := by
    unfold goneI
    cases gn with
    | true =>
      rw [if_pos rfl, if_pos rfl, g_room (by simp only [List.length_append, List.length_cons, List.length_nil]; omega) (by simp only [List.length_append, List.length_cons, List.length_nil]; omega)]
      simp only [List.append_assoc]
    | false => simp only [Bool.false_eq_true, if_false, List.append_nil]
  simp only
  rw [bindO_of e2]
  have hg : (goneI (fr, tm, id, rf, gn, ab, tx)).length ≤ 5 := by unfold goneI; split <;> simp
  generalize hgn : goneI (fr, tm, id, rf, gn, ab, tx) = g at *
  simp only
  rw [g_dec (by simp only [List.length_append, List.length_cons, List.length_nil]; omega), g_dec (by simp only [List.length_append, List.length_cons, List.length_nil]; omega), g_room (by simp only [List.length_append, List.length_cons, List.length_nil]; omega) (by simp only [List.length_append, List.length_cons, List.length_nil]; omega)]
  rw [bindO_of (show linesGo tx = some (linesI tx) from rfl), dotsLoop N s _ _ (linesI tx) _ (mlines_ne tx) (by rw [hlf]; simp only [List.length_append, List.length_cons, List.length_nil]; omega)]
  have hb := bodyI_len tx
  have ebd : ((linesI tx).map dotI).flatten = bodyI tx := rfl
  simp only [ebd]
  rw [g_room (by simp only [List.length_append, List.length_cons, List.length_nil]; omega) (by simp only [List.length_append, List.length_cons, List.length_nil]; omega)]
  have em : acc ++ (hd ++ g) ++ ([97, 98, 111, 117, 116, 32] ++ ab ++ [10]) ++ bodyI tx ++ [46, 10] = acc ++ mailI (fr, tm, id, rf, gn, ab, tx) := by
    unfold mailI topI aboutI
    rw [hhd, hgn]
    simp only [List.append_assoc]
  simp only [em]
  by_cases hbig : 65536 < (acc ++ mailI (fr, tm, id, rf, gn, ab, tx)).length
  · rw [if_pos (by omega), if_pos hbig]
  · rw [if_neg (by omega), if_neg hbig]
    rfl

theorem mbox_take_le (l : List Ml) (k : Nat) : (mboxI (l.take k)).length ≤ (mboxI l).length := by
  conv => rhs; rw [← List.take_append_drop k l]
  unfold mboxI
  rw [List.flatMap_append, List.length_append]
  omega

theorem mbox_succ (l : List Ml) {i : Nat} (h : i < l.length) : mboxI (l.take (i + 1)) = mboxI (l.take i) ++ mailI (l.getD i ml0) := by
  unfold mboxI
  rw [List.take_add_one, List.flatMap_append, List.getElem?_eq_getElem h, List.getD_eq_getElem?_getD, List.getElem?_eq_getElem h]
  simp

theorem print_ok (N : Nat) (l : List Ml) (hc : mail_Check N l = some 0) (hl : l.length ≤ 60) (hf : ∀ e ∈ l, Fits e) (hN : 1048577 < N) : mail_Print N l = some (if 65536 < (mboxI l).length then ([], 2) else (mboxI l, 0)) := by
  unfold mail_Print
  rw [bindO_of hc, if_neg (by decide)]
  refine iter_rule (fun v => ∃ i : Nat, v = ((i : Int), mboxI (l.take i), ()) ∧ i ≤ l.length ∧ (mboxI (l.take i)).length ≤ 65536) (fun v => l.length - v.1.toNat)
    (fun o => o = some (if 65536 < (mboxI l).length then ([], 2) else (mboxI l, 0))) ?_ N _ ⟨0, rfl, Nat.zero_le _, by simp [mboxI]⟩ (by simp only; omega)
  rintro v again ⟨i, rfl, hi, hle⟩ hag
  by_cases hlt : i < l.length
  · rw [print_round N _ _ _ _ l i _ hlt hl (hf _ (ml_mem hlt)) hle, ← mbox_succ l hlt]
    by_cases hbig : 65536 < (mboxI (l.take (i + 1))).length
    · rw [if_pos hbig, if_pos (Nat.lt_of_lt_of_le hbig (mbox_take_le l _))]
    · rw [if_neg hbig]
      exact hag _ ⟨i + 1, rfl, by omega, by omega⟩ (by simp only; omega)
  · have : i = l.length := by omega
    subst this
    rw [List.take_length] at hle ⊢
    unfold mail_Print.s0
    simp only [decide_eq_true_eq]
    rw [if_neg (by omega), if_neg (by omega)]

theorem fact_print (N : Nat) (hN : 1048577 < N) : mail_Print N [([97], ((5 : Int), ([98], ([], (false, ([], []))))))] = some ([109, 97, 105, 108, 32, 98, 32, 97, 32, 53, 10, 97, 98, 111, 117, 116, 32, 10, 46, 10], 0) := by
  have hs : ∀ e ∈ ([([97], ((5 : Int), ([98], ([], (false, ([], []))))))] : List Ml), Small e := by
    intro e he
    simp only [List.mem_singleton] at he
    subst he
    unfold Small
    decide
  obtain ⟨r, h1, h2⟩ := mcheck_res N [([97], ((5 : Int), ([98], ([], (false, ([], []))))))] hs hN
  have hr : r = 0 := resM_unique h2 (Or.inr ⟨by decide, Or.inr ⟨fun j hj => by
    have : j = 0 := by simp at hj; omega
    subst this
    decide, rfl⟩⟩)
  subst hr
  have hf : ∀ e ∈ ([([97], ((5 : Int), ([98], ([], (false, ([], []))))))] : List Ml), Fits e := fun e he => fits_of ((resM_zero h2).2 e he) (hs e he)
  have hp := print_ok N _ h1 (by decide) hf hN
  have em : mboxI [([97], ((5 : Int), ([98], ([], (false, ([], []))))))] = [109, 97, 105, 108, 32, 98, 32, 97, 32, 53, 10, 97, 98, 111, 117, 116, 32, 10, 46, 10] := by decide +kernel
  rw [hp, em]
  rfl

theorem mails_true (N : Nat) (hN : 1048577 < N) : wracklaw2_mails N = some true := by
  unfold wracklaw2_mails
  simp only
  rw [bindO_of (fact_print N hN)]
  rfl

theorem sameMails (N : Nat) (a : List Ml) (ha : a.length ≤ 1048576) (hN : 1048577 < N) : slices_Equal_mail_Mail N a a = some true := by
  unfold slices_Equal_mail_Mail
  simp only [decide_true, Bool.not_true, Bool.false_eq_true, if_false]
  refine iter_rule (fun v => ∃ i : Nat, v = ((i : Int), ()) ∧ i ≤ a.length) (fun v => a.length - v.1.toNat) (fun o => o = some true) ?_ N _ ⟨0, rfl, Nat.zero_le _⟩ (by simp only; omega)
  rintro v again ⟨i, rfl, hi⟩ hag
  unfold slices_Equal_mail_Mail.s0
  simp only [decide_eq_true_eq]
  by_cases hlt : i < a.length
  · rw [if_pos (by omega), gate_pos (inR_of (by omega) (by omega)), gate_pos (inR_of (by omega) (by omega)), w64 (by omega) (by omega)]
    rw [if_neg (by simp)]
    exact hag _ ⟨i + 1, rfl, by omega⟩ (by simp only; omega)
  · rw [if_neg (by omega)]

theorem sameInts (N : Nat) (a : List Int) (ha : a.length ≤ 1048576) (hN : 1048577 < N) : slices_Equal_int N a a = some true := by
  unfold slices_Equal_int
  simp only [decide_true, Bool.not_true, Bool.false_eq_true, if_false]
  refine iter_rule (fun v => ∃ i : Nat, v = ((i : Int), ()) ∧ i ≤ a.length) (fun v => a.length - v.1.toNat) (fun o => o = some true) ?_ N _ ⟨0, rfl, Nat.zero_le _⟩ (by simp only; omega)
  rintro v again ⟨i, rfl, hi⟩ hag
  unfold slices_Equal_int.s0
  simp only [decide_eq_true_eq]
  by_cases hlt : i < a.length
  · rw [if_pos (by omega), gate_pos (inR_of (by omega) (by omega)), gate_pos (inR_of (by omega) (by omega)), w64 (by omega) (by omega)]
    rw [if_neg (by simp)]
    exact hag _ ⟨i + 1, rfl, by omega⟩ (by simp only; omega)
  · rw [if_neg (by omega)]

theorem sameLoop {R : Type} (N : Nat) (s : R) (k0 : (List Ml × List Ml × Unit) → R) (kr : (List Ml × List Ml × Bool × Unit) → R) (x y : List Ml) (a : List (List Int)) (ha : a.length ≤ 60) (hb : ∀ p ∈ a, p.length ≤ 60) (hN : 1048577 < N) (n : Nat) (hn : a.length < n) :
    iter (wracklaw2_MailThreads_i0_slices_EqualFunc.s0 N s k0 kr (a, a, (a.length : Int), ())) s n (x, y, (0 : Int), ()) = k0 (x, y, ()) := by
  refine iter_rule (fun v => ∃ i : Nat, v = (x, y, (i : Int), ()) ∧ i ≤ a.length) (fun v => a.length - v.2.2.1.toNat) (fun o => o = k0 (x, y, ())) ?_ n _ ⟨0, rfl, Nat.zero_le _⟩ (by simp only; omega)
  rintro v again ⟨i, rfl, hi⟩ hag
  unfold wracklaw2_MailThreads_i0_slices_EqualFunc.s0
  simp only [decide_eq_true_eq]
  by_cases hlt : i < a.length
  · have hm : a.getD i [] ∈ a := by
      rw [List.getD_eq_getElem?_getD, List.getElem?_eq_getElem hlt]
      exact List.getElem_mem hlt
    have he : wracklaw2_MailThreads_1 N (a.getD i []) (a.getD i []) = some true := by
      unfold wracklaw2_MailThreads_1
      rw [bindO_of (sameInts N _ (by have := hb _ hm; omega) hN)]
    rw [if_pos (by omega), gate_pos (inR_of (by omega) (by omega)), gate_pos (inR_of (by omega) (by omega)), getI_nat, bindO_of he, w64 (by omega) (by omega)]
    rw [if_neg (by simp)]
    exact hag _ ⟨i + 1, rfl, by omega⟩ (by simp only; omega)
  · rw [if_neg (by omega)]

theorem wantLeft (N : Nat) (K : (List Ml × List (List Int) × List Ml × Unit) → Option Bool) (e f : Int) (x : List Ml) (y : List (List Int)) (l : List Ml) (hl : l.length ≤ 60) (n : Nat) (hn : l.length < n) :
    iter (wracklaw2_MailThreads.s0 N none K (l, e, f, l, (l.length : Int), ())) none n (x, y, [], (0 : Int), ()) = K (x, y, leftM l, ()) := by
  refine iter_rule (fun v => ∃ i : Nat, v = (x, y, leftM (l.take i), (i : Int), ()) ∧ i ≤ l.length) (fun v => l.length - v.2.2.2.1.toNat) (fun o => o = K (x, y, leftM l, ())) ?_ n _ ⟨0, rfl, Nat.zero_le _⟩ (by simp only; omega)
  rintro v again ⟨i, rfl, hi⟩ hag
  unfold wracklaw2_MailThreads.s0
  simp only [decide_eq_true_eq]
  by_cases hlt : i < l.length
  · have hs := leftM_succ l hlt
    have hlen : (leftM (l.take i)).length ≤ i := by
      unfold leftM
      exact Nat.le_trans (List.length_filter_le _ _) (by rw [List.length_take]; omega)
    rw [if_pos (by omega), gate_pos (inR_of (by omega) (by omega)), getI_nat, w64 (by omega) (by omega)]
    cases hg : (l.getD i ml0).2.2.2.2.1 with
    | true =>
      rw [hg, if_pos rfl, List.append_nil] at hs
      rw [if_neg (by decide)]
      exact hag _ ⟨i + 1, by rw [hs]; rfl, by omega⟩ (by simp only; omega)
    | false =>
      rw [hg, if_neg (by decide)] at hs
      rw [if_pos (by decide), g_room (by simp only [List.length_cons, List.length_nil]; omega) (by simp only [List.length_cons, List.length_nil]; omega)]
      exact hag _ ⟨i + 1, by rw [hs]; rfl, by omega⟩ (by simp only; omega)
  · rw [if_neg (by omega)]
    have : i = l.length := by omega
    subst this
    rw [List.take_length]

theorem outG_bound (g : List Int) (n : Nat) : (outG g n).length ≤ n ∧ ∀ p ∈ outG g n, p.length ≤ n := by
  unfold outG
  refine ⟨Nat.le_trans (List.length_filter_le _ _) (by simp), fun p hp => ?_⟩
  have hp := (List.mem_filter.1 hp).1
  rw [List.mem_map] at hp
  obtain ⟨c, _, rfl⟩ := hp
  unfold memG
  rw [List.length_map]
  exact Nat.le_trans (List.length_filter_le _ _) (by simp)

theorem mailThreads_true (N : Nat) (l : List Ml) (hs : ∀ e ∈ l, Small e) (hN : 1048577 < N) : wracklaw2_MailThreads N l = some true := by
  obtain ⟨r, c1, c2⟩ := mcheck_res N l hs hN
  obtain ⟨q, d1, d2⟩ := merr_res N l hs hN
  have hq := resM_unique c2 d2
  subst hq
  unfold wracklaw2_MailThreads
  by_cases hr : r = 0
  · subst hr
    obtain ⟨l60, _⟩ := resM_zero c2
    obtain ⟨g, hg, ht⟩ := threads_ok N l c1 l60 hN
    obtain ⟨d, D, hD, hgr⟩ := grouped_ok N l l60 hN
    rw [bindO_of (purge_ok N l c1 l60 hN), bindO_of ht, bindO_of d1, bindO_of (mails_true N hN)]
    simp only [bindO, Bool.not_true, Bool.false_eq_true, if_false, decide_true]
    rw [wantLeft N _ _ _ _ _ l l60 N (by omega)]
    have hll : (leftM l).length ≤ 1048576 := by
      unfold leftM
      exact Nat.le_trans (List.length_filter_le _ _) (by omega)
    simp only [if_true]
    rw [sameMails N _ hll hN]
    simp only [if_true]
    rw [hgr, ← groups_same c2 hg hD]
    simp only [decide_true, Bool.not_true, Bool.false_eq_true, if_false]
    obtain ⟨b1, b2⟩ := outG_bound g l.length
    rw [sameLoop N none _ _ _ _ (outG g l.length) (by omega) (fun p hp => by have := b2 p hp; omega) hN N (by omega)]
  · rw [bindO_of (purge_bad N l c1 hr), bindO_of (threads_bad N l c1 hr), bindO_of d1, bindO_of (mails_true N hN)]
    rw [decide_eq_false hr]
    simp only [bindO, Bool.not_true, Bool.not_false, Bool.false_eq_true, if_false, if_true]
    rw [mails_true N hN]
    simp

end Go.Proofs.YtnklmlnkiepdiaaGreatDoor
