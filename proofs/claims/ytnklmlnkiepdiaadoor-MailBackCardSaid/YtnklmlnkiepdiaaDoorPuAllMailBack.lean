/-
  PLAIN: all plain texts that mailBack_true needs, in one.
-/
import Derived.Test.YtnklmlnkiepdiaaDoorAbPlain
import Derived.Test.YtnklmlnkiepdiaaDoorPu
import Derived.Test.YtnklmlnkiepdiaaDoorAbIterFn
import Derived.Test.YtnklmlnkiepdiaaDoorAbItoaFn
import Derived.Test.YtnklmlnkiepdiaaDoorAbAtoiFn
set_option linter.unusedVariables false
set_option linter.unusedSimpArgs false
namespace Go.Proofs.YtnklmlnkiepdiaaDoor
open Go Go.Ab

theorem splitI_ne (c : Int) : ∀ l, splitI c l ≠ [] := by
  intro l
  cases l with
  | nil => simp [splitI]
  | cons x r =>
    simp only [splitI]
    split
    · simp
    · split <;> simp

theorem splitI_free (c : Int) : ∀ l : List Int, c ∉ l → splitI c l = [l] := by
  intro l
  induction l with
  | nil => intro _; rfl
  | cons x r ih =>
    intro h
    simp only [List.mem_cons, not_or] at h
    simp only [splitI]
    rw [if_neg (fun e => h.1 e.symm), ih h.2]

theorem splitI_app (c : Int) (b : List Int) : ∀ a : List Int, splitI c (a ++ c :: b) = splitI c a ++ splitI c b := by
  intro a
  induction a with
  | nil => simp [splitI]
  | cons x r ih =>
    simp only [List.cons_append, splitI, ih]
    by_cases h : x = c
    · rw [if_pos h, if_pos h]; rfl
    · rw [if_neg h, if_neg h]
      cases hs : splitI c r with
      | nil => exact absurd hs (splitI_ne c r)
      | cons p q => rfl

def nameCh (x : Int) : Bool := decide (97 ≤ x ∧ x ≤ 122) || decide (48 ≤ x ∧ x ≤ 57) || decide (x = 45)

def nameB (s : List Int) : Bool := match s with
  | [] => false
  | x :: r => decide (s.length ≤ 12) && (decide (97 ≤ x ∧ x ≤ 122) && s.all nameCh)

theorem named_eq (N : Nat) (s : List Int) (hs : s.length ≤ 1048576) (hN : 1048577 < N) : fs_Named N s = some (nameB s) := by
  unfold fs_Named
  cases s with
  | nil => rfl
  | cons x r =>
    have e0 : getI 0 (x :: r) (0 : Int) = x := rfl
    rw [if_neg (by simp)]
    by_cases hl : (x :: r).length ≤ 12
    · rw [if_neg (by simp only [decide_eq_true_eq]; omega), gate_pos (inR_of (by omega) (by simp)), gate_pos (inR_of (by omega) (by simp)), e0]
      simp only [decide_eq_true_eq]
      by_cases h1 : x < 97
      · rw [if_pos h1]
        have : nameB (x :: r) = false := by
          simp only [nameB]
          have : decide (97 ≤ x ∧ x ≤ 122) = false := by simp; omega
          rw [this]; simp
        rw [this]; rfl
      · rw [if_neg h1]
        by_cases h2 : x > 122
        · have : nameB (x :: r) = false := by
            simp only [nameB]
            have : decide (97 ≤ x ∧ x ≤ 122) = false := by simp; omega
            rw [this]; simp
          rw [this]
          simp [bindO, h2]
        · have hx : decide (97 ≤ x ∧ x ≤ 122) = true := by simp; omega
          have hnb : nameB (x :: r) = (x :: r).all nameCh := by
            simp only [nameB]
            rw [hx]
            simp only [Bool.true_and]
            rw [show decide ((x :: r).length ≤ 12) = true by simpa using hl]
            simp
          rw [hnb]
          simp only [bindO, h2, decide_false]
          rw [if_neg (by decide)]
          generalize hy : x :: r = y at *
          refine iter_rule (fun v => ∃ i : Nat, v = ((i : Int), ()) ∧ i ≤ y.length ∧ ∀ j : Nat, j < i → nameCh (y.getD j 0) = true) (fun v => y.length - v.1.toNat)
            (fun o => o = some (y.all nameCh)) ?_ N _ ⟨0, rfl, Nat.zero_le _, fun j hj => absurd hj (Nat.not_lt_zero _)⟩ (by simp only; omega)
          rintro v again ⟨i, rfl, hi, hall⟩ hag
          unfold fs_Named.s0
          simp only [decide_eq_true_eq]
          by_cases hlt : i < y.length
          · rw [if_pos (by omega), gate_pos (inR_of (by omega) (by omega)), getI_nat]
            generalize hz : y.getD i 0 = z
            have body : (if z < 97 then (if z < 48 then some (!decide (z = 45)) else if z > 57 then some (!decide (z = 45)) else some false) else if z > 122 then (if z < 48 then some (!decide (z = 45)) else if z > 57 then some (!decide (z = 45)) else some false) else some false : Option Bool) = some (!nameCh z) := by
              unfold nameCh
              repeat' split
              all_goals
                simp only [Option.some.injEq, Bool.not_or, Bool.false_eq, Bool.and_eq_false_imp]
                rw [Bool.eq_iff_iff]
                simp
                try omega
            rw [body]
            simp only [bindO]
            cases hc : nameCh z with
            | true =>
              simp only [Bool.not_true, Bool.false_eq_true, if_false]
              rw [w64 (by omega) (by omega)]
              refine hag _ ⟨i + 1, by simp, by omega, fun j hj => ?_⟩ (by simp only; omega)
              rcases Nat.lt_or_eq_of_le (Nat.le_of_lt_succ hj) with h | h
              · exact hall j h
              · subst h; rw [hz]; exact hc
            | false =>
              simp only [Bool.not_false, if_true, Option.some.injEq, Bool.false_eq]
              rw [List.all_eq_false]
              refine ⟨y[i], List.getElem_mem hlt, ?_⟩
              rw [List.getD_eq_getElem?_getD, List.getElem?_eq_getElem hlt] at hz
              simp only [Option.getD_some] at hz
              rw [hz, hc]
              simp
          · rw [if_neg (by omega)]
            simp only [Option.some.injEq, Bool.true_eq, List.all_eq_true]
            intro z hz
            obtain ⟨j, hj, rfl⟩ := List.getElem_of_mem hz
            have := hall j (by omega)
            rw [List.getD_eq_getElem?_getD, List.getElem?_eq_getElem hj] at this
            exact this
    · rw [if_pos (by simp only [decide_eq_true_eq]; omega)]
      have : nameB (x :: r) = false := by
        simp only [nameB]
        have : decide ((x :: r).length ≤ 12) = false := by simpa using hl
        rw [this]; simp
      rw [this]; rfl

theorem splitI_len (c : Int) : ∀ l : List Int, (splitI c l).length ≤ l.length + 1 ∧ ∀ p ∈ splitI c l, p.length ≤ l.length := by
  intro l
  induction l with
  | nil => simp [splitI]
  | cons x r ih =>
    simp only [splitI]
    obtain ⟨h1, h2⟩ := ih
    split
    · refine ⟨by simp; omega, fun p hp => ?_⟩
      rcases List.mem_cons.1 hp with hp | hp
      · subst hp; simp
      · have := h2 p hp; simp; omega
    · split
      · rename_i a t hs
        rw [hs] at h1 h2
        refine ⟨by simp at h1 ⊢; omega, fun p hp => ?_⟩
        rcases List.mem_cons.1 hp with hp | hp
        · subst hp
          have := h2 a (by simp)
          simp; omega
        · have := h2 p (by simp [hp])
          simp; omega
      · exact ⟨by simp, fun p hp => by simp at hp; subst hp; simp⟩

/-- a text whose lines all end -/
def endsB (t : List Int) : Bool := decide (t = []) || decide (t.getLast? = some 10)

theorem splitI_at (c : Int) (r : List Int) : splitI c (c :: r) = [] :: splitI c r := by simp [splitI]

theorem splitI_off {c x : Int} {r p : List Int} {q : List (List Int)} (h : x ≠ c) (hs : splitI c r = p :: q) : splitI c (x :: r) = (x :: p) :: q := by
  simp only [splitI]
  rw [if_neg h, hs]

/-- what lies behind the last cut, where it isn't empty -/
def restI (ls : List (List Int)) : List (List Int) := if ls.getLastD [] = [] then [] else [ls.getLastD []]

theorem lines_split : ∀ t : List Int, linesI t = (splitI 10 t).dropLast.map (· ++ [10]) ++ restI (splitI 10 t) := by
  intro t
  induction t with
  | nil => simp [linesI, splitI, restI]
  | cons x r ih =>
    by_cases h : x = 10
    · subst h
      rw [splitI_at]
      simp only [linesI]
      rw [if_pos trivial, ih]
      cases hs : splitI 10 r with
      | nil => exact absurd hs (splitI_ne 10 r)
      | cons p q => simp [restI, List.dropLast]
    · cases hs : splitI 10 r with
      | nil => exact absurd hs (splitI_ne 10 r)
      | cons p q =>
        rw [splitI_off h hs]
        simp only [linesI]
        rw [if_neg h, ih, hs]
        cases q with
        | nil =>
          by_cases hp : p = []
          · subst hp; simp [List.dropLast, restI]
          · simp [List.dropLast, hp, restI]
        | cons p' q' => simp [List.dropLast, restI]

theorem split_last : ∀ t : List Int, (splitI 10 t).getLastD [] = [] ↔ endsB t = true := by
  intro t
  induction t with
  | nil => simp [splitI, endsB]
  | cons x r ih =>
    by_cases h : x = 10
    · subst h
      rw [splitI_at]
      cases hr : splitI 10 r with
      | nil => exact absurd hr (splitI_ne 10 r)
      | cons p q =>
        rw [hr] at ih
        have e : (([] : List Int) :: p :: q).getLastD [] = (p :: q).getLastD [] := by simp [List.getLastD]
        rw [e, ih]
        cases r with
        | nil => simp [endsB]
        | cons y s => simp [endsB]
    · cases hr : splitI 10 r with
      | nil => exact absurd hr (splitI_ne 10 r)
      | cons p q =>
        rw [splitI_off h hr]
        rw [hr] at ih
        cases q with
        | nil =>
          cases r with
          | nil =>
            simp [splitI] at hr
            simp [endsB, h, hr]
          | cons y s =>
            have h1 : endsB (x :: y :: s) = endsB (y :: s) := by simp [endsB]
            rw [h1, ← ih]
            constructor
            · intro e; simp at e
            · intro e
              simp only [List.getLastD_cons, List.getLastD_nil] at e
              subst e
              exfalso
              by_cases hy : y = 10
              · subst hy; rw [splitI_at] at hr; simp at hr; exact splitI_ne _ _ hr
              · cases hr2 : splitI 10 s with
                | nil => exact absurd hr2 (splitI_ne 10 s)
                | cons p2 q2 => rw [splitI_off hy hr2] at hr; simp at hr
        | cons p' q' =>
          have e : ((x :: p) :: p' :: q').getLastD [] = (p :: p' :: q').getLastD [] := by simp [List.getLastD]
          rw [e, ih]
          cases r with
          | nil => simp [splitI] at hr
          | cons y s => simp [endsB]

theorem lines_ends (t : List Int) (h : endsB t = true) : linesI t = (splitI 10 t).dropLast.map (· ++ [10]) := by
  rw [lines_split]
  unfold restI
  rw [if_pos ((split_last t).2 h), List.append_nil]

/-- a line, with a further dot where it begins with one -/
def dotI : List Int → List Int
  | [] => []
  | x :: r => if x = 46 then 46 :: x :: r else x :: r

theorem dotI_app (s : List Int) : dotI (s ++ [10]) = dotI s ++ [10] := by
  cases s with
  | nil => simp [dotI]
  | cons x r =>
    simp only [List.cons_append, dotI]
    by_cases h : x = 46
    · rw [if_pos h, if_pos h]; rfl
    · rw [if_neg h, if_neg h]; rfl

theorem dots_ends (t : List Int) (h : endsB t = true) : ((linesI t).map dotI).flatten = (((splitI 10 t).dropLast.map dotI).map (· ++ [10])).flatten := by
  rw [lines_ends t h, List.map_map, List.map_map]
  congr 2
  funext s
  exact dotI_app s

theorem dotI_len (s : List Int) : (dotI s).length ≤ s.length + 1 := by
  cases s with
  | nil => simp [dotI]
  | cons x r => simp only [dotI]; split <;> simp

theorem mlines_len : ∀ t : List Int, (linesI t).length ≤ t.length := by
  intro t
  induction t with
  | nil => simp [linesI]
  | cons x r ih =>
    simp only [linesI]
    split
    · simp; omega
    · split
      · simp
      · rename_i h t' e
        rw [e] at ih
        simp at ih ⊢; omega

theorem mlines_flat : ∀ t : List Int, (linesI t).flatten = t := by
  intro t
  induction t with
  | nil => simp [linesI]
  | cons x r ih =>
    simp only [linesI]
    split
    · simp [ih]
    · split
      · rename_i e; rw [e] at ih; simp at ih ⊢; exact ih
      · rename_i h t' e; rw [e] at ih; simp at ih ⊢; exact ih

theorem mlines_ne : ∀ t : List Int, ∀ s ∈ linesI t, s ≠ [] := by
  intro t
  induction t with
  | nil => simp [linesI]
  | cons x r ih =>
    simp only [linesI]
    split
    · intro s hs; rcases List.mem_cons.1 hs with h | h
      · subst h; simp
      · exact ih s h
    · split
      · intro s hs; simp at hs; subst hs; simp
      · rename_i h t' e
        intro s hs
        rcases List.mem_cons.1 hs with h2 | h2
        · subst h2; simp
        · exact ih s (by rw [e]; exact List.mem_cons_of_mem _ h2)

theorem dots_len (ls : List (List Int)) : ((ls.map dotI).flatten).length ≤ ls.flatten.length + ls.length := by
  induction ls with
  | nil => simp
  | cons x r ih =>
    have := dotI_len x
    simp only [List.map_cons, List.flatten_cons, List.length_append, List.length_cons]
    omega

theorem g_room {R : Type} {n b : Nat} {k s : R} (h : n * b ≤ 140737488355328) (h' : n ≤ 140737488355328) : gate (roomFor n b) k s = k := gate_pos (room_of h h')

theorem g_dec {R : Type} {p : Prop} [Decidable p] {k s : R} (h : p) : gate (decide p) k s = k := gate_pos (decide_eq_true h)

theorem b_some {α R : Type} {a : α} {k : α → R} {s : R} : bindO (some a) k s = k a := rfl

theorem cut_end {α : Type} (xs : List α) (l : Nat) (h : l ≤ xs.length) : cut xs (l : Int) (xs.length : Int) = xs.drop l := by
  rw [cut_nat xs l xs.length h]
  exact List.take_of_length_le (by simp)

abbrev Ml := List Int × Int × List Int × List Int × Bool × List Int × List Int

abbrev ml0 : Ml := ([], (0 : Int), [], [], false, [], [])

theorem all_getD {α : Type} {d : α} {p : α → Bool} {s : List α} (h : ∀ j, j < s.length → p (s.getD j d) = true) : s.all p = true := by
  rw [List.all_eq_true]
  intro z hz
  obtain ⟨j, hj, rfl⟩ := List.getElem_of_mem hz
  have := h j hj
  rw [List.getD_eq_getElem?_getD, List.getElem?_eq_getElem hj] at this
  exact this

theorem any_getD {α : Type} {d : α} {p : α → Bool} {s : List α} {j : Nat} (hj : j < s.length) (h : p (s.getD j d) = false) : s.all p = false := by
  rw [List.all_eq_false]
  refine ⟨s[j], List.getElem_mem hj, ?_⟩
  rw [List.getD_eq_getElem?_getD, List.getElem?_eq_getElem hj] at h
  simp only [Option.getD_some] at h
  rw [h]; decide

def plainCh (x : Int) : Bool := decide (32 ≤ x ∧ x ≤ 126)

theorem plain1_eq (N : Nat) (c : Int) : mail_plain_1 N c = some (!plainCh c) := by
  unfold mail_plain_1 plainCh
  simp only [decide_eq_true_eq]
  by_cases h : c < 32
  · rw [if_pos h]
    simp only [bindO, Option.some.injEq]
    rw [decide_eq_false (show ¬ (32 ≤ c ∧ c ≤ 126) by omega)]
    rfl
  · rw [if_neg h]
    simp only [bindO, Option.some.injEq]
    by_cases h2 : c > 126
    · rw [decide_eq_true h2, decide_eq_false (show ¬ (32 ≤ c ∧ c ≤ 126) by omega)]; rfl
    · rw [decide_eq_false h2, decide_eq_true (show (32 ≤ c ∧ c ≤ 126) by omega)]; rfl

theorem plain_eq (N : Nat) (s : List Int) (hs : s.length ≤ 1048576) (hN : 1048577 < N) : mail_plain N s = some (s.all plainCh) := by
  unfold mail_plain
  rw [gate_pos (room_of (by omega) (by omega))]
  refine iter_rule (fun v => ∃ i : Nat, v = ((i : Int), ()) ∧ i ≤ s.length ∧ ∀ j : Nat, j < i → plainCh (s.getD j 0) = true) (fun v => s.length - v.1.toNat)
    (fun o => o = some (s.all plainCh)) ?_ N _ ⟨0, rfl, Nat.zero_le _, fun j hj => absurd hj (Nat.not_lt_zero _)⟩ (by simp only; omega)
  rintro v again ⟨i, rfl, hi, hall⟩ hag
  unfold mail_plain_i0_slices_ContainsFunc_i0_slices_IndexFunc.s0
  simp only [decide_eq_true_eq]
  by_cases hlt : i < s.length
  · rw [if_pos (by omega), gate_pos (inR_of (by omega) (by omega)), getI_nat, bindO_of (plain1_eq N _)]
    cases hc : plainCh (s.getD i 0) with
    | true =>
      simp only [Bool.not_true, Bool.false_eq_true, if_false]
      rw [w64 (by omega) (by omega)]
      refine hag _ ⟨i + 1, by simp, by omega, fun j hj => ?_⟩ (by simp only; omega)
      rcases Nat.lt_or_eq_of_le (Nat.le_of_lt_succ hj) with h | h
      · exact hall j h
      · subst h; exact hc
    | false =>
      simp only [Bool.not_false, if_true, Option.some.injEq]
      rw [any_getD hlt hc, decide_eq_true (show (i : Int) ≥ 0 by omega)]
      rfl
  · rw [if_neg (by omega), all_getD (d := 0) (fun j hj => hall j (by omega))]
    rfl

theorem getLast_drop {s : List Int} (h : s ≠ []) (x : Int) : s.drop (s.length - 1) = [x] ↔ s.getLast? = some x := by
  obtain ⟨a, b, rfl⟩ : ∃ a b, s = a ++ [b] := ⟨s.dropLast, s.getLast h, (List.dropLast_concat_getLast h).symm⟩
  simp

theorem suffix_eq (N : Nat) (s : List Int) (hs : s.length ≤ 1048576) : strings_HasSuffix N s [10] = some (decide (s.getLast? = some 10)) := by
  have key : stringslite_HasSuffix N s [10] = some (decide (s.getLast? = some 10)) := by
    unfold stringslite_HasSuffix
    simp only [decide_eq_true_eq, List.length_cons, List.length_nil]
    by_cases h : (s.length : Int) ≥ ((0 + 1 : Nat) : Int)
    · have hne : s ≠ [] := by intro e; subst e; simp at h
      rw [if_pos h]
      have e := cut_end s (s.length - 1) (by omega)
      have ew : IntKind.wrap .i64 ((s.length : Int) - ((0 + 1 : Nat) : Int)) = ((s.length - 1 : Nat) : Int) := by rw [w64 (by omega) (by omega)]; omega
      simp only [ew, e]
      rw [gate_pos (bounds_of (by omega) (by omega) (by omega))]
      simp only [bindO, Option.some.injEq]
      rw [Bool.eq_iff_iff]
      simp only [decide_eq_true_eq]
      exact getLast_drop hne 10
    · rw [if_neg h]
      have : s = [] := by
        cases s with
        | nil => rfl
        | cons x r => simp at h; omega
      subst this
      rfl
  unfold strings_HasSuffix
  rw [bindO_of key]

/-- a reference: none, or a name -/
def refB (s : List Int) : Bool := decide (s = []) || nameB s

/-- what a message's check reports -/
def oneI (m : Ml) : Int :=
  if (nameB m.1 && nameB m.2.2.1 && refB m.2.2.2.1) = false then 6
  else if m.2.1 < 0 ∨ 4294967295 < m.2.1 then 21
  else if (m.2.2.2.2.2.1.all plainCh && endsB m.2.2.2.2.2.2 && (m.2.2.2.2.2.2.filter fun x => decide (x ≠ 10)).all plainCh) = false then 3 else 0

/-- the lengths that a small argument gives -/
def Small (m : Ml) : Prop := m.1.length ≤ 1048576 ∧ m.2.2.1.length ≤ 1048576 ∧ m.2.2.2.1.length ≤ 1048576 ∧ m.2.2.2.2.2.1.length ≤ 1048576 ∧ m.2.2.2.2.2.2.length ≤ 1048576

theorem endsB_eq (t : List Int) : endsB t = (decide (t = []) || decide (t.getLast? = some 10)) := rfl

theorem one_eq (N : Nat) (m : Ml) (hm : Small m) (hN : 1048577 < N) : mail_one N m = some (oneI m) := by
  obtain ⟨h1, h2, h3, h4, h5⟩ := hm
  unfold mail_one
  have names : (bindO (fs_Named N m.1) (fun r6 => if (!r6) = true then some true else bindO (fs_Named N m.2.2.1) (fun r11 => if (!r11) = true then some true else if (!decide (m.2.2.2.1 = [])) = true then bindO (fs_Named N m.2.2.2.1) (fun r21 => some (!r21)) none else some false) none) none : Option Bool) = some (!(nameB m.1 && nameB m.2.2.1 && refB m.2.2.2.1)) := by
    rw [bindO_of (named_eq N _ h1 hN)]
    cases nameB m.1 with
    | false => rfl
    | true =>
      rw [if_neg (by decide), bindO_of (named_eq N _ h2 hN)]
      cases nameB m.2.2.1 with
      | false => rfl
      | true =>
        rw [if_neg (by decide)]
        unfold refB
        by_cases hr : m.2.2.2.1 = []
        · rw [decide_eq_true hr]; rfl
        · rw [decide_eq_false hr, if_pos (by decide), bindO_of (named_eq N _ h3 hN)]
          simp
  simp only [names]
  unfold oneI
  cases hnm : (nameB m.1 && nameB m.2.2.1 && refB m.2.2.2.1) with
  | false => rfl
  | true =>
    simp only [bindO, Bool.not_true, Bool.false_eq_true, if_false, decide_eq_true_eq, Bool.true_eq_false]
    have times : (if m.2.1 < 0 then some true else some (decide (m.2.1 > 4294967295)) : Option Bool) = some (decide (m.2.1 < 0 ∨ 4294967295 < m.2.1)) := by
      by_cases h : m.2.1 < 0
      · rw [if_pos h, decide_eq_true (Or.inl h)]
      · rw [if_neg h]
        congr 1
        rw [Bool.eq_iff_iff]
        simp only [decide_eq_true_eq]
        omega
    rw [times]
    simp only
    by_cases ht : m.2.1 < 0 ∨ 4294967295 < m.2.1
    · rw [decide_eq_true ht, if_pos rfl, if_pos ht]
    · rw [decide_eq_false ht, if_neg (by decide), if_neg ht, plain_eq N _ h4 hN]
      simp only
      have hd : dropF m.2.2.2.2.2.2 [10] [] = some (m.2.2.2.2.2.2.filter fun x => decide (x ≠ 10)) := by
        unfold dropF
        simp only
        rw [if_pos (by omega)]
      have hfl : (m.2.2.2.2.2.2.filter fun x => decide (x ≠ 10)).length ≤ 1048576 := Nat.le_trans (List.length_filter_le _ _) h5
      cases m.2.2.2.2.2.1.all plainCh with
      | false => rfl
      | true =>
        simp only [Bool.not_true, Bool.false_eq_true, if_false, Bool.true_and]
        rw [hd]
        simp only
        rw [plain_eq N _ hfl hN]
        simp only
        rw [endsB_eq]
        by_cases he : m.2.2.2.2.2.2 = []
        · rw [decide_eq_true he]
          simp only [Bool.not_true, Bool.false_eq_true, if_false, Bool.true_or, Bool.true_and]
          cases (m.2.2.2.2.2.2.filter fun x => decide (x ≠ 10)).all plainCh <;> rfl
        · rw [decide_eq_false he]
          simp only [Bool.not_false, if_true, Bool.false_or]
          rw [suffix_eq N _ h5]
          simp only
          cases decide (m.2.2.2.2.2.2.getLast? = some 10) with
          | false => rfl
          | true =>
            simp only [Bool.not_true, Bool.false_eq_true, if_false, Bool.true_and]
            cases (m.2.2.2.2.2.2.filter fun x => decide (x ≠ 10)).all plainCh <;> rfl

theorem ml_mem {l : List Ml} {i : Nat} (h : i < l.length) : l.getD i ml0 ∈ l := by
  rw [List.getD_eq_getElem?_getD, List.getElem?_eq_getElem h]
  exact List.getElem_mem h

/-- is the name there before the i-th -/
def seenM (l : List Ml) (i : Nat) (p : List Int) : Bool := (l.take i).any fun x => decide (x.2.2.1 = p)

def mailAt (l : List Ml) (i : Nat) : Int := if oneI (l.getD i ml0) = 0 then (if seenM l i (l.getD i ml0).2.2.1 = true then 7 else 0) else oneI (l.getD i ml0)

def ResM (l : List Ml) (r : Int) : Prop :=
  (60 < l.length ∧ r = 9) ∨ (l.length ≤ 60 ∧ ((∃ i, i < l.length ∧ (∀ j, j < i → mailAt l j = 0) ∧ mailAt l i ≠ 0 ∧ r = mailAt l i) ∨ ((∀ j, j < l.length → mailAt l j = 0) ∧ r = 0)))

theorem resM_unique {l : List Ml} {r q : Int} (h1 : ResM l r) (h2 : ResM l q) : r = q := by
  rcases h1 with ⟨a1, a2⟩ | ⟨a1, a2⟩
  · rcases h2 with ⟨b1, b2⟩ | ⟨b1, b2⟩
    · rw [a2, b2]
    · omega
  · rcases h2 with ⟨b1, b2⟩ | ⟨b1, b2⟩
    · omega
    · rcases a2 with ⟨i, i1, i2, i3, i4⟩ | ⟨i1, i2⟩
      · rcases b2 with ⟨k, k1, k2, k3, k4⟩ | ⟨k1, k2⟩
        · have : i = k := by
            rcases Nat.lt_trichotomy i k with h | h | h
            · exact absurd (k2 i h) i3
            · exact h
            · exact absurd (i2 k h) k3
          subst this
          rw [i4, k4]
        · exact absurd (k1 i i1) i3
      · rcases b2 with ⟨k, k1, k2, k3, k4⟩ | ⟨k1, k2⟩
        · exact absurd (i1 k k1) k3
        · rw [i2, k2]

theorem twiceM {R : Type} (N : Nat) (s : R) (k0 : (List Int × Int × List Int × List Int × Bool × List Int × List Int × Unit) → R) (kr : (List Int × Int × List Int × List Int × Bool × List Int × List Int × Int × Unit) → R) (l : List Ml)
    (a1 : List Int) (a2 : Int) (p a4 : List Int) (a5 : Bool) (a6 a7 : List Int) (hl : l.length ≤ 1048576) (Q : R → Prop)
    (h0 : (l.any fun x => decide (x.2.2.1 = p)) = false → Q (k0 (a1, a2, p, a4, a5, a6, a7, ()))) (h1 : ∀ i : Nat, (l.any fun x => decide (x.2.2.1 = p)) = true → Q (kr (a1, a2, p, a4, a5, a6, a7, (i : Int), ()))) (n : Nat) (hn : l.length < n) :
    Q (iter (mail_Check_i0_slices_ContainsFunc_i0_slices_IndexFunc.s0 N s k0 kr (l, (l.length : Int), ())) s n (a1, a2, p, a4, a5, a6, a7, (0 : Int), ())) := by
  refine iter_rule (fun v => ∃ i : Nat, v = (a1, a2, p, a4, a5, a6, a7, (i : Int), ()) ∧ i ≤ l.length ∧ ∀ j : Nat, j < i → (l.getD j ml0).2.2.1 ≠ p) (fun v => l.length - v.2.2.2.2.2.2.2.1.toNat) Q ?_ n _ ⟨0, rfl, Nat.zero_le _, fun j hj => absurd hj (Nat.not_lt_zero _)⟩ (by simp only; omega)
  rintro v again ⟨i, rfl, hi, hall⟩ hag
  unfold mail_Check_i0_slices_ContainsFunc_i0_slices_IndexFunc.s0
  simp only [decide_eq_true_eq]
  by_cases hlt : i < l.length
  · rw [if_pos (by omega), gate_pos (inR_of (by omega) (by omega)), getI_nat]
    by_cases h : (l.getD i ml0).2.2.1 = p
    · rw [if_pos h]
      refine h1 i ?_
      rw [List.any_eq_true]
      exact ⟨_, ml_mem hlt, by simpa using h⟩
    · rw [if_neg h, w64 (by omega) (by omega)]
      refine hag _ ⟨i + 1, by simp, by omega, fun j hj => ?_⟩ (by simp only; omega)
      rcases Nat.lt_or_eq_of_le (Nat.le_of_lt_succ hj) with h2 | h2
      · exact hall j h2
      · subst h2; exact h
  · rw [if_neg (by omega)]
    refine h0 ?_
    rw [List.any_eq_false]
    intro e he
    obtain ⟨j, hj, rfl⟩ := List.getElem_of_mem he
    have := hall j (by omega)
    rw [List.getD_eq_getElem?_getD, List.getElem?_eq_getElem hj] at this
    simpa using this

theorem mcut_take {α : Type} (l : List α) (i : Nat) : cut l (0 : Int) (i : Int) = l.take i := by
  have := cut_nat l 0 i (Nat.zero_le _)
  simpa using this

theorem mcheck_res (N : Nat) (l : List Ml) (hp : ∀ e ∈ l, Small e) (hN : 1048577 < N) : ∃ r, mail_Check N l = some r ∧ ResM l r := by
  unfold mail_Check
  simp only [decide_eq_true_eq]
  by_cases h60 : 60 < l.length
  · rw [if_pos (by omega)]
    exact ⟨9, rfl, Or.inl ⟨h60, rfl⟩⟩
  · rw [if_neg (by omega)]
    refine iter_rule (fun v => ∃ i : Nat, v = ((i : Int), ()) ∧ i ≤ l.length ∧ ∀ j, j < i → mailAt l j = 0) (fun v => l.length - v.1.toNat)
      (fun o => ∃ r, o = some r ∧ ResM l r) ?_ N _ ⟨0, rfl, Nat.zero_le _, fun j hj => absurd hj (Nat.not_lt_zero _)⟩ (by simp only; omega)
    rintro v again ⟨i, rfl, hi, hall⟩ hag
    unfold mail_Check.s0
    simp only [decide_eq_true_eq]
    by_cases hlt : i < l.length
    · have stop : ∀ r : Int, mailAt l i = r → r ≠ 0 → ∃ q, (some r : Option Int) = some q ∧ ResM l q := fun r h1 h2 => ⟨r, rfl, Or.inr ⟨by omega, Or.inl ⟨i, hlt, hall, by rw [h1]; exact h2, h1.symm⟩⟩⟩
      have go : mailAt l i = 0 → ∃ q, again ((i : Int) + 1, ()) = some q ∧ ResM l q := fun h => hag _ ⟨i + 1, by simp, by omega, fun j hj => by
        rcases Nat.lt_or_eq_of_le (Nat.le_of_lt_succ hj) with h2 | h2
        · exact hall j h2
        · subst h2; exact h⟩ (by simp only; omega)
      rw [if_pos (by omega), gate_pos (inR_of (by omega) (by omega)), getI_nat, bindO_of (one_eq N _ (hp _ (ml_mem hlt)) hN)]
      by_cases h1 : oneI (l.getD i ml0) = 0
      · rw [if_neg (by rw [decide_eq_true h1]; decide), gate_pos (bounds_of (by omega) (by omega) (by omega)), mcut_take]
        refine twiceM N none _ _ (l.take i) _ _ _ _ _ _ _ (by rw [List.length_take]; omega) (fun o => ∃ q, o = some q ∧ ResM l q) (fun hno => ?_) (fun k hyes => ?_) N (by rw [List.length_take]; omega)
        · rw [if_neg (by decide), w64 (by omega) (by omega)]
          exact go (by unfold mailAt; rw [if_pos h1, if_neg (by unfold seenM; rw [hno]; decide)])
        · simp only
          rw [if_pos (by omega)]
          have hyes : seenM l i (l.getD i ml0).2.2.1 = true := hyes
          exact stop 7 (by unfold mailAt; rw [if_pos h1, if_pos hyes]) (by decide)
      · rw [if_pos (by rw [decide_eq_false h1]; decide)]
        exact stop _ (by unfold mailAt; rw [if_neg h1]) h1
    · rw [if_neg (by omega)]
      exact ⟨0, rfl, Or.inr ⟨by omega, Or.inr ⟨fun j hj => hall j (by omega), rfl⟩⟩⟩

theorem oneI_text {m : Ml} (h : oneI m = 0) : nameB m.1 = true ∧ nameB m.2.2.1 = true ∧ refB m.2.2.2.1 = true ∧ 0 ≤ m.2.1 ∧ m.2.1 ≤ 4294967295 ∧ m.2.2.2.2.2.1.all plainCh = true ∧ endsB m.2.2.2.2.2.2 = true ∧ (m.2.2.2.2.2.2.filter fun x => decide (x ≠ 10)).all plainCh = true := by
  unfold oneI at h
  split at h
  · cases h
  · rename_i h1
    split at h
    · cases h
    · rename_i h2
      split at h
      · cases h
      · rename_i h3
        simp only [Bool.not_eq_false, Bool.and_eq_true] at h1 h3
        exact ⟨h1.1.1, h1.1.2, h1.2, by omega, by omega, h3.1.1, h3.1.2, h3.2⟩

theorem resM_zero {l : List Ml} (h : ResM l 0) : l.length ≤ 60 ∧ ∀ e ∈ l, oneI e = 0 := by
  rcases h with ⟨_, h⟩ | ⟨h5, h⟩
  · exact absurd h (by decide)
  · rcases h with ⟨i, _, _, h6, h7⟩ | ⟨h6, _⟩
    · exact absurd h7.symm h6
    · refine ⟨h5, fun e he => ?_⟩
      obtain ⟨j, hj, rfl⟩ := List.getElem_of_mem he
      have := h6 j hj
      unfold mailAt at this
      rw [List.getD_eq_getElem?_getD, List.getElem?_eq_getElem hj] at this
      simp only [Option.getD_some] at this
      split at this
      · assumption
      · assumption

def headI (m : Ml) : List Int := [109, 97, 105, 108, 32] ++ m.2.2.1 ++ [32] ++ m.1 ++ [32] ++ itoaI m.2.1 ++ [10]

def refI (m : Ml) : List Int := if m.2.2.2.1 = [] then [] else [114, 101, 102, 32] ++ m.2.2.2.1 ++ [10]

def goneI (m : Ml) : List Int := if m.2.2.2.2.1 = true then [103, 111, 110, 101, 10] else []

def aboutI (m : Ml) : List Int := [97, 98, 111, 117, 116, 32] ++ m.2.2.2.2.2.1 ++ [10]

def bodyI (t : List Int) : List Int := ((linesI t).map dotI).flatten

/-- what stands ahead of the text -/
def topI (m : Ml) : List Int := headI m ++ refI m ++ goneI m ++ aboutI m

def mailI (m : Ml) : List Int := topI m ++ bodyI m.2.2.2.2.2.2 ++ [46, 10]

def mboxI (l : List Ml) : List Int := l.flatMap mailI

theorem nDigits_le : ∀ (k u : Nat), u ≤ k → Go.Lib.nDigits u ≤ u + 1 := by
  intro k
  induction k with
  | zero => intro u hu; rw [Go.Lib.nDigits_small (by omega)]; omega
  | succ k ih =>
    intro u hu
    by_cases h : u < 10
    · rw [Go.Lib.nDigits_small h]; omega
    · rw [Go.Lib.nDigits_big h]
      have := ih (u / 10) (by omega)
      omega

theorem itoaI_len {n : Int} (h : 0 ≤ n) : (itoaI n).length ≤ n.toNat + 1 := by
  unfold itoaI Go.Lib.itoa
  rw [if_neg (by omega), List.length_map, Go.Lib.decDigits_length]
  exact nDigits_le _ _ (Nat.le_refl _)

theorem nameB_len {s : List Int} (h : nameB s = true) : s.length ≤ 12 ∧ s ≠ [] := by
  cases s with
  | nil => cases h
  | cons x r =>
    simp only [nameB, Bool.and_eq_true, decide_eq_true_eq] at h
    exact ⟨h.1, by simp⟩

theorem refB_len {s : List Int} (h : refB s = true) : s.length ≤ 12 := by
  unfold refB at h
  simp only [Bool.or_eq_true, decide_eq_true_eq] at h
  rcases h with h | h
  · rw [h]; simp
  · exact (nameB_len h).1

theorem bodyI_len (t : List Int) : (bodyI t).length ≤ 2 * t.length := by
  unfold bodyI
  have h1 := dots_len (linesI t)
  rw [mlines_flat] at h1
  have h2 := mlines_len t
  omega

/-- the lengths of what may be printed -/
structure Fits (m : Ml) : Prop where
  fr : m.1.length ≤ 12
  id : m.2.2.1.length ≤ 12
  rf : m.2.2.2.1.length ≤ 12
  ab : m.2.2.2.2.2.1.length ≤ 1048576
  tx : m.2.2.2.2.2.2.length ≤ 1048576
  tm : (itoaI m.2.1).length ≤ 4294967296

theorem fits_of {m : Ml} (h : oneI m = 0) (hs : Small m) : Fits m := by
  obtain ⟨h1, h2, h3, h4, h5, _⟩ := oneI_text h
  have := itoaI_len h4
  exact ⟨(nameB_len h1).1, (nameB_len h2).1, refB_len h3, hs.2.2.2.1, hs.2.2.2.2, by omega⟩

theorem dotsLoop {R : Type} (N : Nat) (s : R) (c : List Ml × Int × Int × Unit) (K : (List Int × Unit) → R) : ∀ (ls : List (List Int)) (acc : List Int), (∀ p ∈ ls, p ≠ []) → acc.length + ls.flatten.length + ls.length ≤ 8589934592 →
    foldR (mail_Print.r0 N s c) K ls (acc, ()) = K (acc ++ (ls.map dotI).flatten, ()) := by
  intro ls
  induction ls with
  | nil => intro acc _ _; simp [foldR]
  | cons p r ih =>
    intro acc hne hl
    simp only [List.flatten_cons, List.length_append, List.length_cons] at hl
    have hp := List.length_pos_iff.2 (hne p (by simp))
    rw [foldR]
    generalize foldR (mail_Print.r0 N s c) K r = again at *
    unfold mail_Print.r0
    simp only [decide_eq_true_eq]
    rw [gate_pos (inR_of (by omega) (by omega))]
    have hr := fun q hq => hne q (List.mem_cons_of_mem _ hq)
    cases p with
    | nil => exact absurd rfl (hne [] (by simp))
    | cons x t =>
      have e0 : getI 0 (x :: t) (0 : Int) = x := rfl
      rw [e0]
      simp only [List.length_cons] at hl
      by_cases h : x = 46
      · rw [if_pos h, g_room (by simp only [List.length_append, List.length_cons, List.length_nil]; omega) (by simp only [List.length_append, List.length_cons, List.length_nil]; omega), g_room (by simp only [List.length_append, List.length_cons, List.length_nil]; omega) (by simp only [List.length_append, List.length_cons, List.length_nil]; omega)]
        rw [ih _ hr (by simp only [List.length_append, List.length_cons, List.length_nil]; omega)]
        simp only [List.map_cons, dotI, if_pos h, List.flatten_cons, List.append_assoc, List.cons_append, List.nil_append]
      · rw [if_neg h, g_room (by simp only [List.length_append, List.length_cons, List.length_nil]; omega) (by simp only [List.length_append, List.length_cons, List.length_nil]; omega)]
        rw [ih _ hr (by simp only [List.length_append, List.length_cons, List.length_nil]; omega)]
        simp only [List.map_cons, dotI, if_neg h, List.flatten_cons, List.append_assoc, List.cons_append, List.nil_append]

theorem print_round {R : Type} (N : Nat) (s : R) (k0 : (List Int × Unit) → R) (kr : (List Int × Int × Unit) → R) (again : (Int × List Int × Unit) → R) (l : List Ml) (i : Nat) (acc : List Int) (hi : i < l.length) (hl : l.length ≤ 60) (hf : Fits (l.getD i ml0)) (ha : acc.length ≤ 65536) :
    mail_Print.s0 N s k0 kr (l, (l.length : Int), ()) again ((i : Int), acc, ()) =
      if 65536 < (acc ++ mailI (l.getD i ml0)).length then kr ([], 2, ()) else again (((i + 1 : Nat) : Int), acc ++ mailI (l.getD i ml0), ()) := by
  unfold mail_Print.s0
  simp only [decide_eq_true_eq]
  rw [if_pos (by omega), gate_pos (inR_of (by omega) (by omega)), getI_nat, w64 (by omega) (by omega)]
  generalize l.getD i ml0 = m at *
  obtain ⟨fr, tm, id, rf, gn, ab, tx⟩ := m
  obtain ⟨h1, h2, h3, h4, h5, h6⟩ := hf
  simp only at h1 h2 h3 h4 h5 h6 ⊢
  have hlf := mlines_flat tx
  have hll := mlines_len tx
  rw [g_dec (by simp only [List.length_append, List.length_cons, List.length_nil]; omega), g_dec (by simp only [List.length_append, List.length_cons, List.length_nil]; omega), g_dec (by simp only [List.length_append, List.length_cons, List.length_nil]; omega), g_dec (by simp only [List.length_append, List.length_cons, List.length_nil]; omega)]
  rw [bindO_of (show itoaF tm = some (itoaI tm) from rfl)]
  rw [g_dec (by simp only [List.length_append, List.length_cons, List.length_nil]; omega), g_dec (by simp only [List.length_append, List.length_cons, List.length_nil]; omega), g_room (by simp only [List.length_append, List.length_cons, List.length_nil]; omega) (by simp only [List.length_append, List.length_cons, List.length_nil]; omega)]
  have e1 : (if (!decide (rf = [])) = true then
      gate (decide ([114, 101, 102, 32].length + rf.length ≤ 140737488355328)) (gate (decide (([114, 101, 102, 32] ++ rf).length + [10].length ≤ 140737488355328))
        (gate (roomFor ((acc ++ (([109, 97, 105, 108, 32] ++ id ++ [32] ++ fr ++ [32] ++ itoaI tm) ++ [10])).length + (([114, 101, 102, 32] ++ rf) ++ [10]).length) 1)
          (some ((acc ++ (([109, 97, 105, 108, 32] ++ id ++ [32] ++ fr ++ [32] ++ itoaI tm) ++ [10])) ++ (([114, 101, 102, 32] ++ rf) ++ [10]), fr, tm, id, rf, gn, ab, tx, ())) none) none) none
      else some (acc ++ (([109, 97, 105, 108, 32] ++ id ++ [32] ++ fr ++ [32] ++ itoaI tm) ++ [10]), fr, tm, id, rf, gn, ab, tx, ()) : Option (List Int × List Int × Int × List Int × List Int × Bool × List Int × List Int × Unit)) =
      some (acc ++ (headI (fr, tm, id, rf, gn, ab, tx) ++ refI (fr, tm, id, rf, gn, ab, tx)), fr, tm, id, rf, gn, ab, tx, ()) := by
    unfold headI refI
    by_cases hr : rf = []
    · simp only [hr, decide_true, Bool.not_true, Bool.false_eq_true, if_false, if_true, List.append_nil]
    · rw [if_pos (by rw [decide_eq_false hr]; rfl), if_neg hr]
      rw [g_dec (by simp only [List.length_append, List.length_cons, List.length_nil]; omega), g_dec (by simp only [List.length_append, List.length_cons, List.length_nil]; omega), g_room (by simp only [List.length_append, List.length_cons, List.length_nil]; omega) (by simp only [List.length_append, List.length_cons, List.length_nil]; omega)]
      simp only [List.append_assoc]
  rw [bindO_of e1]
  have hh : (headI (fr, tm, id, rf, gn, ab, tx) ++ refI (fr, tm, id, rf, gn, ab, tx)).length ≤ 4294967400 := by
    unfold headI refI
    split <;> simp only [List.length_append, List.length_cons, List.length_nil] <;> omega
  generalize hhd : headI (fr, tm, id, rf, gn, ab, tx) ++ refI (fr, tm, id, rf, gn, ab, tx) = hd at *
  have e2 : (if gn = true then gate (roomFor ((acc ++ hd).length + [103, 111, 110, 101, 10].length) 1) (some ((acc ++ hd) ++ [103, 111, 110, 101, 10], fr, tm, id, rf, gn, ab, tx, ())) none
      else some (acc ++ hd, fr, tm, id, rf, gn, ab, tx, ()) : Option (List Int × List Int × Int × List Int × List Int × Bool × List Int × List Int × Unit)) = some (acc ++ (hd ++ goneI (fr, tm, id, rf, gn, ab, tx)), fr, tm, id, rf, gn, ab, tx, ()) := by
    unfold goneI
    cases gn with
    | true =>
      rw [if_pos rfl, if_pos rfl, g_room (by simp only [List.length_append, List.length_cons, List.length_nil]; omega) (by simp only [List.length_append, List.length_cons, List.length_nil]; omega)]
      simp only [List.append_assoc]
    | false => simp only [Bool.false_eq_true, if_false, List.append_nil]
  simp only
  rw [bindO_of e2]
  have hg : (goneI (fr, tm, id, rf, gn, ab, tx)).length ≤ 5 := by unfold goneI; split <;> simp
  generalize hgn : goneI (fr, tm, id, rf, gn, ab, tx) = g at *
  simp only
  rw [g_dec (by simp only [List.length_append, List.length_cons, List.length_nil]; omega), g_dec (by simp only [List.length_append, List.length_cons, List.length_nil]; omega), g_room (by simp only [List.length_append, List.length_cons, List.length_nil]; omega) (by simp only [List.length_append, List.length_cons, List.length_nil]; omega)]
  rw [bindO_of (show linesGo tx = some (linesI tx) from rfl), dotsLoop N s _ _ (linesI tx) _ (mlines_ne tx) (by rw [hlf]; simp only [List.length_append, List.length_cons, List.length_nil]; omega)]
  have hb := bodyI_len tx
  have ebd : ((linesI tx).map dotI).flatten = bodyI tx := rfl
  simp only [ebd]
  rw [g_room (by simp only [List.length_append, List.length_cons, List.length_nil]; omega) (by simp only [List.length_append, List.length_cons, List.length_nil]; omega)]
  have em : acc ++ (hd ++ g) ++ ([97, 98, 111, 117, 116, 32] ++ ab ++ [10]) ++ bodyI tx ++ [46, 10] = acc ++ mailI (fr, tm, id, rf, gn, ab, tx) := by
    unfold mailI topI aboutI
    rw [hhd, hgn]
    simp only [List.append_assoc]
  simp only [em]
  by_cases hbig : 65536 < (acc ++ mailI (fr, tm, id, rf, gn, ab, tx)).length
  · rw [if_pos (by omega), if_pos hbig]
  · rw [if_neg (by omega), if_neg hbig]
    rfl

/-- lines, each with its line feed -/
def unl (ls : List (List Int)) : List Int := (ls.map (· ++ [10])).flatten

theorem unl_cons (x : List Int) (r : List (List Int)) : unl (x :: r) = x ++ 10 :: unl r := by simp [unl]

theorem unl_app (a b : List (List Int)) : unl (a ++ b) = unl a ++ unl b := by simp [unl]

theorem cutI_hit {c : Int} : ∀ {x : List Int} (r : List Int), c ∉ x → cutI c (x ++ c :: r) = (x, r, true) := by
  intro x
  induction x with
  | nil => intro r _; simp [cutI]
  | cons y t ih =>
    intro r h
    simp only [List.mem_cons, not_or] at h
    simp only [List.cons_append, cutI]
    rw [if_neg (fun e => h.1 e.symm), ih r h.2]

theorem cutI_miss {c : Int} : ∀ {x : List Int}, c ∉ x → cutI c x = (x, [], false) := by
  intro x
  induction x with
  | nil => intro _; rfl
  | cons y t ih =>
    intro h
    simp only [List.mem_cons, not_or] at h
    simp only [cutI]
    rw [if_neg (fun e => h.1 e.symm), ih h.2]

/-- the reader stands before these lines; behind them there is a piece without a line feed -/
structure At (s tail : List Int) (ls : List (List Int)) (at_ : Nat) : Prop where
  le : at_ ≤ s.length
  eq : s.drop at_ = unl ls ++ tail
  noLine : ∀ x ∈ ls, (10 : Int) ∉ x
  noTail : (10 : Int) ∉ tail

theorem line_hit {N : Nat} {s tail x : List Int} {r : List (List Int)} {p : Nat} (h : At s tail (x :: r) p) (hs : s.length ≤ 65536) :
    ∃ q : Nat, mail_reader_line N (s, (p : Int)) = some ((x, true), (s, (q : Int))) ∧ At s tail r q ∧ q = p + x.length + 1 := by
  have hle := h.le
  have heq := h.eq
  have hlen := congrArg List.length heq
  rw [unl_cons] at heq hlen
  simp only [List.length_drop, List.length_append, List.length_cons] at hlen
  have hcut := cut_end s p hle
  unfold mail_reader_line
  simp only
  rw [gate_pos (bounds_of (by omega) (by omega) (by omega))]
  simp only [hcut, heq, List.append_assoc, List.cons_append]
  have hx := h.noLine x (by simp)
  rw [cutI_hit _ hx]
  rw [g_dec (by simp only [List.length_append, List.length_cons]; omega)]
  simp only [if_true]
  rw [w64 (x := (x.length : Int) + 1) (by omega) (by omega), w64 (x := (p : Int) + ((x.length : Int) + 1)) (by omega) (by omega), show (p : Int) + ((x.length : Int) + 1) = ((p + x.length + 1 : Nat) : Int) by omega]
  refine ⟨p + x.length + 1, rfl, ⟨by omega, ?_, fun y hy => h.noLine y (List.mem_cons_of_mem _ hy), h.noTail⟩, rfl⟩
  · have : s.drop (p + (x.length + 1)) = (s.drop p).drop (x.length + 1) := by rw [List.drop_drop]
    rw [show p + x.length + 1 = p + (x.length + 1) by omega, this, heq, List.append_assoc, List.drop_append, List.cons_append]
    simp

theorem line_miss {N : Nat} {s tail : List Int} {p : Nat} (h : At s tail [] p) (hs : s.length ≤ 65536) : mail_reader_line N (s, (p : Int)) = some ((tail, false), (s, (p : Int))) := by
  have hle := h.le
  have heq := h.eq
  have hlen := congrArg List.length heq
  simp only [unl, List.map_nil, List.flatten_nil, List.nil_append] at heq hlen
  simp only [List.length_drop] at hlen
  have hcut := cut_end s p hle
  unfold mail_reader_line
  simp only
  rw [gate_pos (bounds_of (by omega) (by omega) (by omega))]
  simp only [hcut, heq]
  rw [cutI_miss h.noTail, g_dec (by omega)]
  simp

def preB (w x : List Int) : Bool := decide (x.take w.length = w)

theorem hasPre_eq (N : Nat) (s p : List Int) : stringslite_HasPrefix N s p = some (preB p s) := by
  unfold stringslite_HasPrefix preB
  simp only [decide_eq_true_eq]
  by_cases h : (s.length : Int) ≥ p.length
  · rw [if_pos h, gate_pos (bounds_of (by omega) (by omega) (by omega))]
    have := cut_nat s 0 p.length (Nat.zero_le _)
    simp only [Int.natCast_zero, List.drop_zero, Nat.sub_zero] at this
    simp only [bindO]
    rw [← this]
  · rw [if_neg h]
    simp only [bindO, Option.some.injEq]
    symm
    rw [decide_eq_false_iff_not]
    intro e
    have := congrArg List.length e
    rw [List.length_take] at this
    omega

theorem preB_len {w x : List Int} (h : preB w x = true) : w.length ≤ x.length := by
  unfold preB at h
  have := congrArg List.length (of_decide_eq_true h)
  rw [List.length_take] at this
  omega

theorem cutPre_eq (N : Nat) (s p : List Int) : strings_CutPrefix N s p = some (if preB p s = true then (s.drop p.length, true) else (s, false)) := by
  have key : stringslite_CutPrefix N s p = some (if preB p s = true then (s.drop p.length, true) else (s, false)) := by
    unfold stringslite_CutPrefix
    rw [bindO_of (hasPre_eq N s p)]
    cases h : preB p s with
    | false => rfl
    | true =>
      have hl := preB_len h
      simp only [Bool.not_true, Bool.false_eq_true, if_false, if_true]
      rw [gate_pos (bounds_of (by omega) (by omega) (by omega)), cut_end s p.length hl]
  unfold strings_CutPrefix
  rw [bindO_of key]

theorem trimPre_eq (N : Nat) (s p : List Int) : strings_TrimPrefix N s p = some (if preB p s = true then s.drop p.length else s) := by
  have key : stringslite_TrimPrefix N s p = some (if preB p s = true then s.drop p.length else s) := by
    unfold stringslite_TrimPrefix
    rw [bindO_of (hasPre_eq N s p)]
    cases h : preB p s with
    | false => rfl
    | true =>
      have hl := preB_len h
      simp only [if_true]
      rw [gate_pos (bounds_of (by omega) (by omega) (by omega)), cut_end s p.length hl]
  unfold strings_TrimPrefix
  rw [bindO_of key]

theorem hasPrefix_eq (N : Nat) (s p : List Int) : strings_HasPrefix N s p = some (preB p s) := by
  unfold strings_HasPrefix
  rw [bindO_of (hasPre_eq N s p)]

theorem word_hit {N : Nat} {s tail x w : List Int} {r : List (List Int)} {p : Nat} (h : At s tail (x :: r) p) (hs : s.length ≤ 65536) (hw : preB w x = true) :
    ∃ q : Nat, mail_reader_word N (s, (p : Int)) w = some ((x.drop w.length, true), (s, (q : Int))) ∧ At s tail r q ∧ q = p + x.length + 1 := by
  obtain ⟨q, e1, e2, e3⟩ := line_hit (N := N) h hs
  refine ⟨q, ?_, e2, e3⟩
  unfold mail_reader_word
  rw [bindO_of e1]
  simp only
  rw [bindO_of (cutPre_eq N x w), if_pos hw]
  rfl

theorem word_off {N : Nat} {s tail x w : List Int} {r : List (List Int)} {p : Nat} (h : At s tail (x :: r) p) (hs : s.length ≤ 65536) (hw : preB w x = false) :
    mail_reader_word N (s, (p : Int)) w = some (([], false), (s, (p : Int))) := by
  obtain ⟨q, e1, e2, e3⟩ := line_hit (N := N) h hs
  unfold mail_reader_word
  rw [bindO_of e1]
  simp only
  rw [bindO_of (cutPre_eq N x w)]
  simp only [hw, Bool.false_eq_true, if_false]
  rfl

theorem word_miss {N : Nat} {s tail w : List Int} {p : Nat} (h : At s tail [] p) (hs : s.length ≤ 65536) :
    mail_reader_word N (s, (p : Int)) w = some (([], false), (s, (p : Int))) := by
  have e1 := line_miss (N := N) h hs
  unfold mail_reader_word
  rw [bindO_of e1]
  simp only
  rw [bindO_of (cutPre_eq N tail w)]
  rfl

/-- a line that begins with a single dot -/
def badDot (x : List Int) : Bool := preB [46] x && (decide (x.drop 1 = []) || !decide (getI 0 (x.drop 1) (0 : Int) = 46))

def undot (x : List Int) : List Int := if preB [46] x = true then x.drop 1 else x

def txtL : List (List Int) → List Int → Option (List Int × List (List Int))
  | [], _ => none
  | x :: r, acc => if x = [46] then some (acc, r) else if badDot x = true then none else txtL r (acc ++ (undot x ++ [10]))

def aboutL (fr : List Int) (tm : Int) (id rf : List Int) (gn : Bool) : List (List Int) → Option (Ml × List (List Int))
  | [] => none
  | x :: r => if preB [97, 98, 111, 117, 116, 32] x = true then
      match txtL r [] with
      | some (t, r2) => if oneI (fr, tm, id, rf, gn, x.drop 6, t) = 0 then some ((fr, tm, id, rf, gn, x.drop 6, t), r2) else none
      | none => none
    else none

def goneL (fr : List Int) (tm : Int) (id rf : List Int) : List (List Int) → Option (Ml × List (List Int))
  | [] => none
  | x :: r => if preB [103, 111, 110, 101] x = true then (if x.drop 4 = [] then aboutL fr tm id rf true r else none) else aboutL fr tm id rf false (x :: r)

def refL (fr : List Int) (tm : Int) (id : List Int) : List (List Int) → Option (Ml × List (List Int))
  | [] => none
  | x :: r => if preB [114, 101, 102, 32] x = true then (if x.drop 4 = [] then none else goneL fr tm id (x.drop 4) r) else goneL fr tm id [] (x :: r)

def headOf (x : List Int) : Option (List Int × Int × List Int) :=
  if preB [109, 97, 105, 108, 32] x = true then
    (if (splitI 32 (x.drop 5)).length = 3 ∧ (atoiI ((splitI 32 (x.drop 5)).getD 2 [])).2 = true ∧ itoaI (atoiI ((splitI 32 (x.drop 5)).getD 2 [])).1 = (splitI 32 (x.drop 5)).getD 2 [] then
      some ((splitI 32 (x.drop 5)).getD 1 [], (atoiI ((splitI 32 (x.drop 5)).getD 2 [])).1, (splitI 32 (x.drop 5)).getD 0 [])
    else none)
  else none

def mailL : List (List Int) → Option (Ml × List (List Int))
  | [] => none
  | x :: r => match headOf x with
    | some (fr, tm, id) => refL fr tm id r
    | none => none

/-- what a call of the reader comes to -/
def Ends (s tail : List Int) (o : Option (Ml × List (List Int))) (res : Option ((Ml × Bool) × (List Int × Int))) : Prop :=
  ∃ (m : Ml) (ok : Bool) (q : Nat), res = some ((m, ok), (s, (q : Int))) ∧ match o with
    | some (m', r) => m = m' ∧ ok = true ∧ At s tail r q
    | none => ok = false

theorem undot_len (x : List Int) : (undot x).length ≤ x.length := by
  unfold undot
  split
  · simp
  · omega

theorem line_len {s tail x : List Int} {r : List (List Int)} {p : Nat} (h : At s tail (x :: r) p) : p + x.length + 1 ≤ s.length := by
  have hlen := congrArg List.length h.eq
  have := h.le
  rw [unl_cons] at hlen
  simp only [List.length_drop, List.length_append, List.length_cons] at hlen
  omega

theorem textRun (N : Nat) (K : (List Int × Int × Bool × List Int × Int × List Int × List Int × Bool × List Int × List Int × Unit) → Option ((Ml × Bool) × (List Int × Int)))
    (hK : ∀ a1 a2 a3 b1 b2 b3 b4 b5 b6 b7, K (a1, a2, a3, b1, b2, b3, b4, b5, b6, b7, ()) = some (((b1, (b2, (b3, (b4, (b5, (b6, b7)))))), a3), (a1, a2)))
    (s tail fr : List Int) (tm : Int) (id rf : List Int) (gn : Bool) (ab : List Int) (z1 : List Int) (z2 : Int) (z3 z4 : List Int) (z5 : Bool) (z6 z7 : List Int) (hs : s.length ≤ 65536) (hN : 1048577 < N) (h1 : fr.length ≤ 65536) (h2 : id.length ≤ 65536) (h3 : rf.length ≤ 65536) (h4 : ab.length ≤ 65536) :
    ∀ (ls : List (List Int)) (p : Nat) (acc : List Int) (n : Nat), At s tail ls p → acc.length ≤ p → ls.length < n →
      Ends s tail (match txtL ls acc with
        | some (t, r2) => if oneI (fr, tm, id, rf, gn, ab, t) = 0 then some ((fr, tm, id, rf, gn, ab, t), r2) else none
        | none => none) (iter (mail_reader_mail.s0 N none K ()) none n (s, (p : Int), z1, z2, z3, z4, z5, z6, z7, fr, tm, id, rf, gn, ab, [], acc, ())) := by
  intro ls
  induction ls with
  | nil =>
    intro p acc n h ha hn
    obtain ⟨n, rfl⟩ := Nat.exists_eq_succ_of_ne_zero (show n ≠ 0 by omega)
    rw [iter_eq]
    unfold mail_reader_mail.s0
    simp only
    rw [bindO_of (line_miss (N := N) h hs)]
    simp only [Bool.not_false, if_true, hK]
    exact ⟨_, false, p, rfl, rfl⟩
  | cons x r ih =>
    intro p acc n h ha hn
    obtain ⟨n, rfl⟩ := Nat.exists_eq_succ_of_ne_zero (show n ≠ 0 by omega)
    rw [iter_eq]
    obtain ⟨q, e1, e2, e3⟩ := line_hit (N := N) h hs
    have hll := line_len h
    generalize hag : iter (mail_reader_mail.s0 N none K ()) none n = again at *
    have ih2 : ∀ (acc' : List Int), acc'.length ≤ q → Ends s tail (match txtL r acc' with
        | some (t, r2) => if oneI (fr, tm, id, rf, gn, ab, t) = 0 then some ((fr, tm, id, rf, gn, ab, t), r2) else none
        | none => none) (again (s, (q : Int), z1, z2, z3, z4, z5, z6, z7, fr, tm, id, rf, gn, ab, [], acc', ())) := fun acc' h' => by
      rw [← hag]
      exact ih q acc' n e2 h' (by simp only [List.length_cons] at hn; omega)
    unfold mail_reader_mail.s0
    simp only [decide_eq_true_eq]
    rw [bindO_of e1]
    simp only [Bool.not_true, Bool.false_eq_true, if_false]
    simp only [txtL]
    by_cases hdot : x = [46]
    · rw [if_pos hdot, if_pos hdot]
      have hsm : Small (fr, tm, id, rf, gn, ab, acc) := ⟨by simp only; omega, by simp only; omega, by simp only; omega, by simp only; omega, by simp only; omega⟩
      rw [bindO_of (one_eq N _ hsm hN)]
      simp only [hK]
      refine ⟨_, _, q, rfl, ?_⟩
      by_cases h0 : oneI (fr, tm, id, rf, gn, ab, acc) = 0
      · rw [if_pos h0]
        exact ⟨rfl, decide_eq_true h0, e2⟩
      · rw [if_neg h0]
        exact decide_eq_false h0
    · rw [if_neg hdot, if_neg hdot, bindO_of (cutPre_eq N x [46])]
      have hbad : ∀ (K2 : Bool → Option ((Ml × Bool) × (List Int × Int))), bindO (if (if preB [46] x = true then (x.drop [(46 : Int)].length, true) else (x, false)).2 = true then (if (if preB [46] x = true then (x.drop [(46 : Int)].length, true) else (x, false)).1 = [] then some true else gate (inR (0 : Int) ((if preB [46] x = true then (x.drop [(46 : Int)].length, true) else (x, false)).1.length : Int)) (some (!decide (getI 0 (if preB [46] x = true then (x.drop [(46 : Int)].length, true) else (x, false)).1 (0 : Int) = 46))) none) else some false : Option Bool) K2 none = K2 (badDot x) := by
        intro K2
        unfold badDot
        cases hp : preB [46] x with
        | false => rfl
        | true =>
          simp only [if_true, Bool.true_and, List.length_cons, List.length_nil, Nat.zero_add]
          by_cases hd : x.drop 1 = []
          · rw [if_pos hd, decide_eq_true hd]; rfl
          · have := List.length_pos_iff.2 hd
            rw [if_neg hd, gate_pos (inR_of (by omega) (by omega)), decide_eq_false hd]
            rfl
      rw [hbad]
      cases hb : badDot x with
      | true =>
        rw [if_pos rfl, if_pos rfl, hK]
        exact ⟨_, false, q, rfl, rfl⟩
      | false =>
        rw [if_neg (by decide), if_neg (by decide), bindO_of (trimPre_eq N x [46])]
        have hun : (if preB [46] x = true then x.drop [(46 : Int)].length else x) = undot x := rfl
        rw [hun]
        have hul := undot_len x
        rw [g_dec (by simp only [List.length_cons, List.length_nil]; omega), g_room (by simp only [List.length_append, List.length_cons, List.length_nil]; omega) (by simp only [List.length_append, List.length_cons, List.length_nil]; omega)]
        exact ih2 _ (by simp only [List.length_append, List.length_cons, List.length_nil]; omega)

theorem mail_step (N : Nat) (s tail : List Int) (hs : s.length ≤ 65536) (hN : 1048577 < N) (ls : List (List Int)) (p : Nat) (h : At s tail ls p) (hln : ls.length ≤ 65536) : Ends s tail (mailL ls) (mail_reader_mail N (s, (p : Int))) := by
  unfold mail_reader_mail
  have hsplit : ∀ x : List Int, x.length ≤ 65536 → strings_Split N x [32] = some (splitI 32 x) := by
    intro x hx
    unfold strings_Split
    have : genSplitF x [32] 0 (-1) = some (splitI 32 x) := by
      simp only [genSplitF]
      rw [if_pos ⟨trivial, trivial, by omega⟩]
    rw [bindO_of this]
  -- the first line
  cases ls with
  | nil =>
    rw [bindO_of (word_miss (N := N) h hs)]
    simp only
    rw [bindO_of (hsplit [] (by simp))]
    simp only [Bool.not_false, if_true, bindO]
    exact ⟨_, false, p, rfl, rfl⟩
  | cons x r =>
    have hll := line_len h
    cases hw : preB [109, 97, 105, 108, 32] x with
    | false =>
      rw [bindO_of (word_off (N := N) h hs hw)]
      simp only
      rw [bindO_of (hsplit [] (by simp))]
      simp only [Bool.not_false, if_true, bindO, mailL, headOf, hw, Bool.false_eq_true, if_false]
      exact ⟨_, false, p, rfl, rfl⟩
    | true =>
      obtain ⟨q, e1, e2, e3⟩ := word_hit (N := N) h hs hw
      rw [bindO_of e1]
      simp only
      rw [bindO_of (hsplit _ (by rw [List.length_drop]; omega))]
      have hhead : headOf x = if (splitI 32 (x.drop 5)).length = 3 ∧ (atoiI ((splitI 32 (x.drop 5)).getD 2 [])).2 = true ∧ itoaI (atoiI ((splitI 32 (x.drop 5)).getD 2 [])).1 = (splitI 32 (x.drop 5)).getD 2 [] then
          some ((splitI 32 (x.drop 5)).getD 1 [], (atoiI ((splitI 32 (x.drop 5)).getD 2 [])).1, (splitI 32 (x.drop 5)).getD 0 []) else none := by
        unfold headOf
        rw [if_pos hw]
      have hml : mailL (x :: r) = match (if (splitI 32 (x.drop 5)).length = 3 ∧ (atoiI ((splitI 32 (x.drop 5)).getD 2 [])).2 = true ∧ itoaI (atoiI ((splitI 32 (x.drop 5)).getD 2 [])).1 = (splitI 32 (x.drop 5)).getD 2 [] then
          some ((splitI 32 (x.drop 5)).getD 1 [], (atoiI ((splitI 32 (x.drop 5)).getD 2 [])).1, (splitI 32 (x.drop 5)).getD 0 []) else none : Option (List Int × Int × List Int)) with
          | some (fr, tm, id) => refL fr tm id r
          | none => none := by
        simp only [mailL]
        rw [hhead]
      clear hhead
      generalize mailL (x :: r) = o at *
      simp only [List.length_cons, List.length_nil, Nat.zero_add, Nat.reduceAdd]
      obtain ⟨z1, z2⟩ := splitI_len 32 (x.drop 5)
      have hdl : (x.drop 5).length ≤ 65536 := by rw [List.length_drop]; omega
      generalize splitI 32 (x.drop 5) = ws at *
      by_cases h3 : ws.length = 3
      · have hz : ∀ i, i < 3 → (ws.getD i []).length ≤ 65536 := by
          intro i hi
          rw [List.getD_eq_getElem?_getD, List.getElem?_eq_getElem (by omega)]
          have := z2 _ (List.getElem_mem (show i < ws.length by omega))
          simp only [Option.getD_some]
          omega
        have g2 : getI [] ws (2 : Int) = ws.getD 2 [] := getI_nat [] ws 2
        have g1 : getI [] ws (1 : Int) = ws.getD 1 [] := getI_nat [] ws 1
        have g0 : getI [] ws (0 : Int) = ws.getD 0 [] := getI_nat [] ws 0
        have hl2 := hz 2 (by omega)
        have hl1 := hz 1 (by omega)
        have hl0 := hz 0 (by omega)
        simp only [g2, g1, g0]
        have c1 : (if (!true) = true then some true else some (!decide ((ws.length : Int) = 3)) : Option Bool) = some false := by
          rw [if_neg (by decide), decide_eq_true (show (ws.length : Int) = 3 by omega)]; rfl
        rw [bindO_of c1, if_neg (by decide), gate_pos (inR_of (by omega) (by omega)), gate_pos (inR_of (by omega) (by omega)), g_dec (by omega)]
        generalize ws.getD 2 [] = w2 at *
        generalize ws.getD 1 [] = w1 at *
        generalize ws.getD 0 [] = w0 at *
        have c2 : (if (!(atoiI w2).2) = true then some true else bindO (itoaF (atoiI w2).1) (fun r41 => gate (inR (2 : Int) (ws.length : Int)) (gate (inR (2 : Int) (ws.length : Int)) (some (!decide (r41 = w2))) none) none) none : Option Bool) = some (!(decide ((atoiI w2).2 = true ∧ itoaI (atoiI w2).1 = w2))) := by
          cases ha : (atoiI w2).2 with
          | false => simp
          | true =>
            rw [if_neg (by decide), bindO_of (show itoaF (atoiI w2).1 = some (itoaI (atoiI w2).1) from rfl), gate_pos (inR_of (by omega) (by omega)), gate_pos (inR_of (by omega) (by omega))]
            simp
        rw [bindO_of c2]
        by_cases hok : (atoiI w2).2 = true ∧ itoaI (atoiI w2).1 = w2
        · rw [if_pos ⟨h3, hok⟩] at hml
          simp only at hml
          subst hml
          rw [decide_eq_true hok, if_neg (by decide), gate_pos (inR_of (by omega) (by omega)), gate_pos (inR_of (by omega) (by omega)), gate_pos (inR_of (by omega) (by omega)), gate_pos (inR_of (by omega) (by omega))]
          generalize (atoiI w2).1 = tm at *
          clear c2 hok
          have hrl : r.length ≤ 65536 := by simp only [List.length_cons] at hln; omega
          -- the text behind 'about'
          have about : ∀ (rf : List Int) (gn : Bool) (ls : List (List Int)) (p : Nat) (z2 : Int) (z7 : Bool), rf.length ≤ 65536 → ls.length ≤ 65536 → At s tail ls p →
              Ends s tail (aboutL w1 tm w0 rf gn ls) (bindO (mail_reader_word N (s, (p : Int)) [97, 98, 111, 117, 116, 32]) (fun r83 =>
                if (!r83.1.2) = true then some (((w1, (tm, (w0, (rf, (gn, (r83.1.1, [])))))), false), r83.2)
                else iter (mail_reader_mail.s0 N none (fun (x933 : List Int × Int × Bool × List Int × Int × List Int × List Int × Bool × List Int × List Int × Unit) =>
                  some (((x933.2.2.2.1, (x933.2.2.2.2.1, (x933.2.2.2.2.2.1, (x933.2.2.2.2.2.2.1, (x933.2.2.2.2.2.2.2.1, (x933.2.2.2.2.2.2.2.2.1, x933.2.2.2.2.2.2.2.2.2.1)))))), x933.2.2.1), (x933.1, x933.2.1))) ()) none N (r83.2.1, r83.2.2, [], z2, [], [], z7, [], [], w1, tm, w0, rf, gn, r83.1.1, [], [], ())) none) := by
            intro rf gn ls p zz2 zz7 hrf hl hat
            cases ls with
            | nil =>
              rw [bindO_of (word_miss (N := N) hat hs)]
              simp only [Bool.not_false, if_true]
              exact ⟨_, false, p, rfl, rfl⟩
            | cons y r2 =>
              cases hy : preB [97, 98, 111, 117, 116, 32] y with
              | false =>
                rw [bindO_of (word_off (N := N) hat hs hy)]
                simp only [Bool.not_false, if_true, aboutL, hy, Bool.false_eq_true, if_false]
                exact ⟨_, false, p, rfl, rfl⟩
              | true =>
                obtain ⟨q2, f1, f2, f3⟩ := word_hit (N := N) hat hs hy
                have hyl := line_len hat
                rw [bindO_of f1]
                simp only [Bool.not_true, Bool.false_eq_true, if_false, aboutL, hy, if_true, List.length_cons, List.length_nil, Nat.zero_add, Nat.reduceAdd]
                exact textRun N _ (fun _ _ _ _ _ _ _ _ _ _ => rfl) s tail w1 tm w0 rf gn (y.drop 6) _ _ _ _ _ _ _ hs hN hl1 hl0 hrf (by rw [List.length_drop]; omega) r2 q2 [] N f2 (by simp) (by simp only [List.length_cons] at hl; omega)
          -- 'gone'
          have gone : ∀ (rf : List Int) (ls : List (List Int)) (p : Nat), rf.length ≤ 65536 → ls.length ≤ 65536 → At s tail ls p →
              Ends s tail (goneL w1 tm w0 rf ls) (bindO (mail_reader_word N (s, (p : Int)) [103, 111, 110, 101]) (fun r73 =>
                if r73.1.2 = true then
                  if (!decide (r73.1.1 = [])) = true then some (((w1, (tm, (w0, (rf, (true, ([], [])))))), false), r73.2)
                  else bindO (mail_reader_word N r73.2 [97, 98, 111, 117, 116, 32]) (fun r83 =>
                    if (!r83.1.2) = true then some (((w1, (tm, (w0, (rf, (true, (r83.1.1, [])))))), false), r83.2)
                    else iter (mail_reader_mail.s0 N none (fun (x933 : List Int × Int × Bool × List Int × Int × List Int × List Int × Bool × List Int × List Int × Unit) =>
                      some (((x933.2.2.2.1, (x933.2.2.2.2.1, (x933.2.2.2.2.2.1, (x933.2.2.2.2.2.2.1, (x933.2.2.2.2.2.2.2.1, (x933.2.2.2.2.2.2.2.2.1, x933.2.2.2.2.2.2.2.2.2.1)))))), x933.2.2.1), (x933.1, x933.2.1))) ()) none N (r83.2.1, r83.2.2, [], (0 : Int), [], [], false, [], [], w1, tm, w0, rf, true, r83.1.1, [], [], ())) none
                else bindO (mail_reader_word N r73.2 [97, 98, 111, 117, 116, 32]) (fun r83 =>
                    if (!r83.1.2) = true then some (((w1, (tm, (w0, (rf, (false, (r83.1.1, [])))))), false), r83.2)
                    else iter (mail_reader_mail.s0 N none (fun (x933 : List Int × Int × Bool × List Int × Int × List Int × List Int × Bool × List Int × List Int × Unit) =>
                      some (((x933.2.2.2.1, (x933.2.2.2.2.1, (x933.2.2.2.2.2.1, (x933.2.2.2.2.2.2.1, (x933.2.2.2.2.2.2.2.1, (x933.2.2.2.2.2.2.2.2.1, x933.2.2.2.2.2.2.2.2.2.1)))))), x933.2.2.1), (x933.1, x933.2.1))) ()) none N (r83.2.1, r83.2.2, [], (0 : Int), [], [], false, [], [], w1, tm, w0, rf, false, r83.1.1, [], [], ())) none) none) := by
            intro rf ls p hrf hl hat
            cases ls with
            | nil =>
              rw [bindO_of (word_miss (N := N) hat hs)]
              simp only [Bool.false_eq_true, if_false, goneL]
              exact about rf false [] p 0 false hrf hl hat
            | cons y r2 =>
              cases hy : preB [103, 111, 110, 101] y with
              | false =>
                rw [bindO_of (word_off (N := N) hat hs hy)]
                simp only [Bool.false_eq_true, if_false, goneL, hy]
                exact about rf false (y :: r2) p 0 false hrf hl hat
              | true =>
                obtain ⟨q2, f1, f2, f3⟩ := word_hit (N := N) hat hs hy
                rw [bindO_of f1]
                simp only [if_true, goneL, hy, List.length_cons, List.length_nil, Nat.zero_add, Nat.reduceAdd]
                by_cases hd : y.drop 4 = []
                · rw [if_pos hd, decide_eq_true hd, if_neg (by decide)]
                  exact about rf true r2 q2 0 false hrf (by simp only [List.length_cons] at hl; omega) f2
                · rw [if_neg hd, decide_eq_false hd, if_pos (by decide)]
                  exact ⟨_, false, q2, rfl, rfl⟩
          -- 'ref'
          cases hr : r with
          | nil =>
            rw [hr] at e2
            rw [bindO_of (word_miss (N := N) e2 hs)]
            simp only [Bool.false_eq_true, if_false, b_some, refL]
            exact gone [] [] q (by simp) (by simp) e2
          | cons y r2 =>
            rw [hr] at e2 hrl
            cases hy : preB [114, 101, 102, 32] y with
            | false =>
              rw [bindO_of (word_off (N := N) e2 hs hy)]
              simp only [Bool.false_eq_true, if_false, b_some, refL, hy]
              exact gone [] (y :: r2) q (by simp) hrl e2
            | true =>
              obtain ⟨q2, f1, f2, f3⟩ := word_hit (N := N) e2 hs hy
              have hyl := line_len e2
              rw [bindO_of f1]
              simp only [if_true, b_some, refL, hy, List.length_cons, List.length_nil, Nat.zero_add, Nat.reduceAdd]
              by_cases hd : y.drop 4 = []
              · rw [if_pos hd, decide_eq_true hd, if_pos rfl]
                exact ⟨_, false, q2, rfl, rfl⟩
              · rw [if_neg hd, decide_eq_false hd, if_neg (by decide)]
                exact gone (y.drop 4) r2 q2 (by rw [List.length_drop]; omega) (by simp only [List.length_cons] at hrl; omega) f2
        · rw [if_neg (fun h => hok h.2)] at hml
          simp only at hml
          subst hml
          rw [decide_eq_false hok, if_pos (by decide)]
          exact ⟨_, false, q, rfl, rfl⟩
      · have c1 : (if (!true) = true then some true else some (!decide ((ws.length : Int) = 3)) : Option Bool) = some true := by
          rw [if_neg (by decide), decide_eq_false (show ¬ (ws.length : Int) = 3 by omega)]; rfl
        rw [if_neg (fun h => h3 h.1)] at hml
        simp only at hml
        subst hml
        rw [bindO_of c1, if_pos rfl]
        exact ⟨_, false, q, rfl, rfl⟩

theorem parse_digits : ∀ (k u : Nat), u ≤ k → u < 9223372036854775808 → ∀ r, Go.Lib.parseUint10 0 (Go.Lib.decDigits u ++ r) = Go.Lib.parseUint10 u r := by
  intro k
  induction k with
  | zero =>
    intro u hu _ r
    have : u = 0 := by omega
    subst this
    rw [Go.Lib.decDigits, dif_pos (by omega)]
    rfl
  | succ k ih =>
    intro u hu hb r
    by_cases h : u < 10
    · rw [Go.Lib.decDigits, dif_pos h]
      simp only [List.cons_append, List.nil_append, Go.Lib.parseUint10]
      have e : (UInt8.ofNat (48 + u)).toNat = 48 + u := by
        simp
        omega
      rw [e, if_pos (by omega), if_neg (by omega), if_neg (by omega)]
      congr 1
      omega
    · rw [Go.Lib.decDigits, dif_neg h, List.append_assoc, ih (u / 10) (by omega) (by omega)]
      simp only [List.cons_append, List.nil_append, Go.Lib.parseUint10]
      have e : (UInt8.ofNat (48 + u % 10)).toNat = 48 + u % 10 := by
        simp
        omega
      rw [e, if_pos (by omega), if_neg (by omega), if_neg (by omega)]
      congr 1
      omega

theorem digit_first (u : Nat) : ∃ c r, Go.Lib.decDigits u = c :: r ∧ 48 ≤ c.toNat := by
  induction u using Nat.strongRecOn with
  | _ u ih =>
    by_cases h : u < 10
    · rw [Go.Lib.decDigits, dif_pos h]
      refine ⟨_, [], rfl, ?_⟩
      simp
      omega
    · rw [Go.Lib.decDigits, dif_neg h]
      obtain ⟨c, r, e, h1⟩ := ih (u / 10) (by omega)
      exact ⟨c, r ++ [UInt8.ofNat (48 + u % 10)], by rw [e]; rfl, h1⟩

theorem digit_all (u : Nat) : ∀ c ∈ Go.Lib.decDigits u, 48 ≤ c.toNat ∧ c.toNat ≤ 57 := by
  induction u using Nat.strongRecOn with
  | _ u ih =>
    intro c hc
    by_cases h : u < 10
    · rw [Go.Lib.decDigits, dif_pos h, List.mem_singleton] at hc
      subst hc
      simp
      omega
    · rw [Go.Lib.decDigits, dif_neg h, List.mem_append, List.mem_singleton] at hc
      rcases hc with hc | hc
      · exact ih (u / 10) (by omega) c hc
      · subst hc
        simp
        omega

theorem atoi_itoa {n : Int} (h1 : 0 ≤ n) (h2 : n ≤ 4294967295) : atoiI (itoaI n) = (n, true) := by
  have e1 : toB (itoaI n) = Go.Lib.decDigits n.toNat := by
    unfold toB itoaI Go.Lib.itoa
    rw [if_neg (by omega), List.map_map]
    refine (List.map_congr_left fun b _ => ?_).trans (List.map_id _)
    simp
  obtain ⟨c, r, e2, e3⟩ := digit_first n.toNat
  have e4 : Go.Lib.atoiAll (Go.Lib.decDigits n.toNat) = .ok n := by
    have hm : Go.Lib.parseMag (Go.Lib.decDigits n.toNat) = .ok n.toNat := by
      unfold Go.Lib.parseMag
      rw [if_neg (by rw [e2]; simp)]
      have := parse_digits n.toNat n.toNat (Nat.le_refl _) (by omega) []
      rw [List.append_nil] at this
      rw [this]
      rfl
    rw [e2] at hm ⊢
    unfold Go.Lib.atoiAll
    simp only
    rw [if_neg (by omega), hm]
    simp only
    rw [if_neg (by omega), if_neg (by omega), if_neg (by omega)]
    congr 1
    omega
  unfold atoiI
  rw [e1, e4]

theorem itoaI_mem {n : Int} (h : 0 ≤ n) : ∀ x ∈ itoaI n, 48 ≤ x ∧ x ≤ 57 := by
  intro x hx
  unfold itoaI Go.Lib.itoa at hx
  rw [if_neg (by omega), List.mem_map] at hx
  obtain ⟨c, hc, rfl⟩ := hx
  have := digit_all _ c hc
  omega

def headX (m : Ml) : List Int := [109, 97, 105, 108, 32] ++ (m.2.2.1 ++ 32 :: (m.1 ++ 32 :: itoaI m.2.1))

def linesM (m : Ml) : List (List Int) :=
  headX m :: ((if m.2.2.2.1 = [] then [] else [[114, 101, 102, 32] ++ m.2.2.2.1]) ++ ((if m.2.2.2.2.1 = true then [[103, 111, 110, 101]] else []) ++
    (([97, 98, 111, 117, 116, 32] ++ m.2.2.2.2.2.1) :: ((splitI 10 m.2.2.2.2.2.2).dropLast.map dotI ++ [[46]]))))

theorem unl_lines (m : Ml) (he : endsB m.2.2.2.2.2.2 = true) : unl (linesM m) = mailI m := by
  have hd := dots_ends m.2.2.2.2.2.2 he
  unfold linesM mailI topI headI refI goneI aboutI bodyI headX
  rw [unl_cons, unl_app, unl_app, unl_cons, unl_app]
  rw [hd]
  unfold unl
  split <;> split <;> simp

theorem split_free (c : Int) : ∀ l : List Int, ∀ p ∈ splitI c l, c ∉ p := by
  intro l
  induction l with
  | nil => intro p hp; simp [splitI] at hp; subst hp; simp
  | cons x r ih =>
    intro p hp
    by_cases h : x = c
    · subst h
      rw [splitI_at] at hp
      rcases List.mem_cons.1 hp with hp | hp
      · subst hp; simp
      · exact ih p hp
    · cases hs : splitI c r with
      | nil => exact absurd hs (splitI_ne c r)
      | cons a b =>
        rw [splitI_off h hs] at hp
        rw [hs] at ih
        rcases List.mem_cons.1 hp with hp | hp
        · subst hp
          have := ih a (by simp)
          simp only [List.mem_cons, not_or]
          exact ⟨fun e => h e.symm, this⟩
        · exact ih p (List.mem_cons_of_mem _ hp)

theorem nameB_mem {s : List Int} (h : nameB s = true) : ∀ x ∈ s, x ≠ 10 ∧ x ≠ 32 := by
  cases s with
  | nil => cases h
  | cons y r =>
    simp only [nameB, Bool.and_eq_true, decide_eq_true_eq, List.all_eq_true] at h
    intro x hx
    have := h.2.2 x hx
    simp only [nameCh, Bool.or_eq_true, decide_eq_true_eq] at this
    omega

theorem refB_mem {s : List Int} (h : refB s = true) : ∀ x ∈ s, x ≠ 10 := by
  unfold refB at h
  simp only [Bool.or_eq_true, decide_eq_true_eq] at h
  rcases h with h | h
  · subst h; intro x hx; cases hx
  · exact fun x hx => (nameB_mem h x hx).1

theorem dotI_free {x : List Int} (h : (10 : Int) ∉ x) : (10 : Int) ∉ dotI x := by
  cases x with
  | nil => simp [dotI]
  | cons y r =>
    simp only [dotI]
    split
    · simp only [List.mem_cons, not_or] at h ⊢
      exact ⟨by decide, h⟩
    · exact h

theorem lines_free {m : Ml} (h : oneI m = 0) : ∀ x ∈ linesM m, (10 : Int) ∉ x := by
  obtain ⟨h1, h2, h3, h4, h5, h6, h7, _⟩ := oneI_text h
  have hi := itoaI_mem h4
  have hab : (10 : Int) ∉ m.2.2.2.2.2.1 := by
    intro hm
    have := List.all_eq_true.1 h6 _ hm
    simp [plainCh] at this
  intro x hx
  unfold linesM at hx
  simp only [List.mem_cons, List.mem_append] at hx
  rcases hx with hx | hx | hx | hx | hx | hx
  · subst hx
    unfold headX
    simp only [List.mem_append, List.mem_cons, not_or, List.not_mem_nil]
    refine ⟨by decide, fun hm => (nameB_mem h2 _ hm).1 rfl, by decide, fun hm => (nameB_mem h1 _ hm).1 rfl, by decide, fun hm => ?_⟩
    have := hi _ hm
    omega
  · split at hx
    · cases hx
    · rw [List.mem_singleton] at hx
      subst hx
      simp only [List.mem_append, List.mem_cons, not_or, List.not_mem_nil]
      exact ⟨by decide, fun hm => refB_mem h3 _ hm rfl⟩
  · split at hx
    · rw [List.mem_singleton] at hx
      subst hx
      decide
    · cases hx
  · subst hx
    simp only [List.mem_append, List.mem_cons, not_or, List.not_mem_nil]
    exact ⟨by decide, hab⟩
  · rw [List.mem_map] at hx
    obtain ⟨y, hy, rfl⟩ := hx
    exact dotI_free (split_free 10 _ y (List.dropLast_subset _ hy))
  · rcases hx with hx | hx
    · subst hx; decide
    · cases hx

theorem preB_app (w x : List Int) : preB w (w ++ x) = true := by
  unfold preB
  rw [decide_eq_true_eq, List.take_left']
  rfl

theorem drop_app (w x : List Int) : (w ++ x).drop w.length = x := List.drop_left' rfl

theorem txt_back (B : List (List Int)) : ∀ (L : List (List Int)) (acc : List Int), txtL (L.map dotI ++ [46] :: B) acc = some (acc ++ unl L, B) := by
  intro L
  induction L with
  | nil => intro acc; simp [txtL, unl]
  | cons x r ih =>
    intro acc
    have key : dotI x ≠ [46] ∧ badDot (dotI x) = false ∧ undot (dotI x) = x := by
      cases x with
      | nil => refine ⟨by simp [dotI], rfl, rfl⟩
      | cons y t =>
        by_cases h : y = 46
        · subst h
          have e : dotI ((46 : Int) :: t) = 46 :: 46 :: t := by simp [dotI]
          rw [e]
          refine ⟨by simp, ?_, ?_⟩
          · have : getI 0 ((46 : Int) :: t) (0 : Int) = 46 := rfl
            simp [badDot, this]
          · have : preB [46] ((46 : Int) :: 46 :: t) = true := by simp [preB]
            unfold undot
            rw [if_pos this]
            rfl
        · have e : dotI (y :: t) = y :: t := by simp [dotI, h]
          have hp : preB [46] (y :: t) = false := by simp [preB, h]
          rw [e]
          refine ⟨by simp [h], ?_, ?_⟩
          · unfold badDot; rw [hp]; rfl
          · unfold undot; rw [if_neg (by rw [hp]; decide)]
    simp only [List.map_cons, List.cons_append, txtL]
    rw [if_neg key.1, if_neg (by rw [key.2.1]; decide), key.2.2, ih]
    congr 2
    rw [unl_cons]
    simp

theorem aboutL_cons (fr : List Int) (tm : Int) (id rf : List Int) (gn : Bool) (x : List Int) (r : List (List Int)) : aboutL fr tm id rf gn (x :: r) = if preB [97, 98, 111, 117, 116, 32] x = true then
      match txtL r [] with
      | some (t, r2) => if oneI (fr, tm, id, rf, gn, x.drop 6, t) = 0 then some ((fr, tm, id, rf, gn, x.drop 6, t), r2) else none
      | none => none
    else none := rfl

theorem goneL_cons (fr : List Int) (tm : Int) (id rf x : List Int) (r : List (List Int)) : goneL fr tm id rf (x :: r) = if preB [103, 111, 110, 101] x = true then (if x.drop 4 = [] then aboutL fr tm id rf true r else none) else aboutL fr tm id rf false (x :: r) := rfl

theorem refL_cons (fr : List Int) (tm : Int) (id x : List Int) (r : List (List Int)) : refL fr tm id (x :: r) = if preB [114, 101, 102, 32] x = true then (if x.drop 4 = [] then none else goneL fr tm id (x.drop 4) r) else goneL fr tm id [] (x :: r) := rfl

theorem head_back {m : Ml} (h1 : nameB m.1 = true) (h2 : nameB m.2.2.1 = true) (h3 : 0 ≤ m.2.1) (h4 : m.2.1 ≤ 4294967295) : headOf (headX m) = some (m.1, m.2.1, m.2.2.1) := by
  have hp : preB [109, 97, 105, 108, 32] (headX m) = true := preB_app _ _
  have hd : (headX m).drop 5 = m.2.2.1 ++ 32 :: (m.1 ++ 32 :: itoaI m.2.1) := drop_app [109, 97, 105, 108, 32] _
  have hs : splitI 32 (m.2.2.1 ++ 32 :: (m.1 ++ 32 :: itoaI m.2.1)) = [m.2.2.1, m.1, itoaI m.2.1] := by
    rw [splitI_app, splitI_app, splitI_free 32 _ (fun h => (nameB_mem h2 _ h).2 rfl), splitI_free 32 _ (fun h => (nameB_mem h1 _ h).2 rfl), splitI_free 32 _ (fun h => by have := itoaI_mem h3 _ h; omega)]
    rfl
  unfold headOf
  rw [if_pos hp, hd, hs]
  have g2 : ([m.2.2.1, m.1, itoaI m.2.1] : List (List Int)).getD 2 [] = itoaI m.2.1 := rfl
  have g1 : ([m.2.2.1, m.1, itoaI m.2.1] : List (List Int)).getD 1 [] = m.1 := rfl
  have g0 : ([m.2.2.1, m.1, itoaI m.2.1] : List (List Int)).getD 0 [] = m.2.2.1 := rfl
  rw [g2, g1, g0, atoi_itoa h3 h4]
  rw [if_pos ⟨rfl, rfl, rfl⟩]

theorem mail_back {m : Ml} (h : oneI m = 0) (B : List (List Int)) : mailL (linesM m ++ B) = some (m, B) := by
  obtain ⟨h1, h2, h3, h4, h5, h6, h7, _⟩ := oneI_text h
  have htx : unl (splitI 10 m.2.2.2.2.2.2).dropLast = m.2.2.2.2.2.2 := by
    have e1 := lines_ends m.2.2.2.2.2.2 h7
    have e2 := mlines_flat m.2.2.2.2.2.2
    rw [e1] at e2
    exact e2
  have hab : ∀ gn, m.2.2.2.2.1 = gn → aboutL m.1 m.2.1 m.2.2.1 m.2.2.2.1 gn (([97, 98, 111, 117, 116, 32] ++ m.2.2.2.2.2.1) :: ((splitI 10 m.2.2.2.2.2.2).dropLast.map dotI ++ [46] :: B)) = some (m, B) := by
    intro gn hgn
    have hd : ([97, 98, 111, 117, 116, 32] ++ m.2.2.2.2.2.1 : List Int).drop 6 = m.2.2.2.2.2.1 := drop_app [97, 98, 111, 117, 116, 32] _
    rw [aboutL_cons, if_pos (preB_app _ _), txt_back]
    simp only [List.nil_append]
    rw [hd, htx, ← hgn]
    rw [if_pos (show oneI (m.1, m.2.1, m.2.2.1, m.2.2.2.1, m.2.2.2.2.1, m.2.2.2.2.2.1, m.2.2.2.2.2.2) = 0 from h)]
  have hgone : goneL m.1 m.2.1 m.2.2.1 m.2.2.2.1 ((if m.2.2.2.2.1 = true then [[103, 111, 110, 101]] else []) ++ (([97, 98, 111, 117, 116, 32] ++ m.2.2.2.2.2.1) :: ((splitI 10 m.2.2.2.2.2.2).dropLast.map dotI ++ [46] :: B))) = some (m, B) := by
    cases hg : m.2.2.2.2.1 with
    | true =>
      rw [if_pos rfl]
      simp only [List.cons_append, List.nil_append]
      rw [goneL_cons, if_pos (by decide), if_pos (by decide)]
      exact hab true hg
    | false =>
      rw [if_neg (by decide)]
      simp only [List.nil_append]
      rw [goneL_cons, if_neg (by simp [preB])]
      exact hab false hg
  unfold linesM
  simp only [List.cons_append, List.append_assoc, List.nil_append, mailL]
  rw [head_back h1 h2 h4 h5]
  simp only
  by_cases hr : m.2.2.2.1 = []
  · rw [if_pos hr]
    rw [hr] at hgone
    simp only [List.nil_append, List.cons_append, List.append_assoc] at hgone ⊢
    cases hg : m.2.2.2.2.1 with
    | true =>
      rw [hg, if_pos rfl] at hgone
      rw [if_pos rfl]
      simp only [List.cons_append, List.nil_append] at hgone ⊢
      rw [refL_cons, if_neg (by simp [preB])]
      exact hgone
    | false =>
      rw [hg, if_neg (by decide)] at hgone
      rw [if_neg (by decide)]
      simp only [List.nil_append] at hgone ⊢
      rw [refL_cons, if_neg (by simp [preB])]
      exact hgone
  · rw [if_neg hr]
    simp only [List.cons_append, List.nil_append]
    rw [refL_cons]
    have hd : ([114, 101, 102, 32] ++ m.2.2.2.1 : List Int).drop 4 = m.2.2.2.1 := drop_app [114, 101, 102, 32] _
    have hp : preB [114, 101, 102, 32] ([114, 101, 102, 32] ++ m.2.2.2.1) = true := preB_app _ _
    simp only [List.cons_append, List.nil_append] at hd hp
    rw [if_pos hp, hd, if_neg hr]
    simp only [List.cons_append, List.nil_append, List.append_assoc] at hgone
    exact hgone

theorem txt_more (B : List (List Int)) : ∀ (A : List (List Int)) (acc t : List Int) (R : List (List Int)), txtL A acc = some (t, R) → txtL (A ++ B) acc = some (t, R ++ B) := by
  intro A
  induction A with
  | nil => intro acc t R h; cases h
  | cons x r ih =>
    intro acc t R h
    simp only [List.cons_append, txtL] at h ⊢
    split at h
    · rename_i h1
      rw [if_pos h1]
      simp only [Option.some.injEq, Prod.mk.injEq] at h ⊢
      exact ⟨h.1, by rw [h.2]⟩
    · rename_i h1
      rw [if_neg h1]
      split at h
      · cases h
      · rename_i h2
        rw [if_neg h2]
        exact ih _ _ _ h

theorem about_more {fr : List Int} {tm : Int} {id rf : List Int} {gn : Bool} {A : List (List Int)} {m : Ml} {R : List (List Int)} (B : List (List Int)) (h : aboutL fr tm id rf gn A = some (m, R)) : aboutL fr tm id rf gn (A ++ B) = some (m, R ++ B) := by
  cases A with
  | nil => cases h
  | cons x r =>
    simp only [List.cons_append, aboutL] at h ⊢
    split at h
    · rename_i h1
      rw [if_pos h1]
      cases ht : txtL r [] with
      | none => rw [ht] at h; cases h
      | some p =>
        obtain ⟨t, r2⟩ := p
        rw [ht] at h
        rw [txt_more B _ _ _ _ ht]
        simp only at h ⊢
        split at h
        · rename_i h2
          rw [if_pos h2]
          simp only [Option.some.injEq, Prod.mk.injEq] at h ⊢
          exact ⟨h.1, by rw [h.2]⟩
        · cases h
    · cases h

theorem gone_more {fr : List Int} {tm : Int} {id rf : List Int} {A : List (List Int)} {m : Ml} {R : List (List Int)} (B : List (List Int)) (h : goneL fr tm id rf A = some (m, R)) : goneL fr tm id rf (A ++ B) = some (m, R ++ B) := by
  cases A with
  | nil => cases h
  | cons x r =>
    simp only [List.cons_append, goneL] at h ⊢
    split at h
    · rename_i h1
      rw [if_pos h1]
      split at h
      · rename_i h2
        rw [if_pos h2]
        exact about_more B h
      · cases h
    · rename_i h1
      rw [if_neg h1]
      exact about_more (A := x :: r) B h

theorem ref_more {fr : List Int} {tm : Int} {id : List Int} {A : List (List Int)} {m : Ml} {R : List (List Int)} (B : List (List Int)) (h : refL fr tm id A = some (m, R)) : refL fr tm id (A ++ B) = some (m, R ++ B) := by
  cases A with
  | nil => cases h
  | cons x r =>
    simp only [List.cons_append, refL] at h ⊢
    split at h
    · rename_i h1
      rw [if_pos h1]
      split at h
      · cases h
      · rename_i h2
        rw [if_neg h2]
        exact gone_more B h
    · rename_i h1
      rw [if_neg h1]
      exact gone_more (A := x :: r) B h

theorem mail_more {A : List (List Int)} {m : Ml} {R : List (List Int)} (B : List (List Int)) (h : mailL A = some (m, R)) : mailL (A ++ B) = some (m, R ++ B) := by
  cases A with
  | nil => cases h
  | cons x r =>
    simp only [List.cons_append, mailL] at h ⊢
    cases hh : headOf x with
    | none => rw [hh] at h; cases h
    | some p =>
      obtain ⟨fr, tm, id⟩ := p
      rw [hh] at h
      exact ref_more B h

/-- some of a message's lines, but not all, are no message -/
theorem mail_part {m : Ml} (h : oneI m = 0) {A Q : List (List Int)} (e : linesM m = A ++ Q) (hQ : Q ≠ []) : mailL A = none := by
  cases ha : mailL A with
  | none => rfl
  | some p =>
    obtain ⟨m', R⟩ := p
    have h1 := mail_more Q ha
    rw [← e] at h1
    have h2 := mail_back h []
    rw [List.append_nil, h1] at h2
    simp only [Option.some.injEq, Prod.mk.injEq, List.append_eq_nil_iff] at h2
    exact absurd h2.2.2 hQ

/-- a beginning of lines -/
theorem unl_part : ∀ (L : List (List Int)) (p q : List Int), (∀ x ∈ L, (10 : Int) ∉ x) → unl L = p ++ q → q ≠ [] → ∃ A tail Q, p = unl A ++ tail ∧ (10 : Int) ∉ tail ∧ L = A ++ Q ∧ Q ≠ [] := by
  intro L
  induction L with
  | nil =>
    intro p q _ h hq
    have : p ++ q = [] := h.symm
    rw [List.append_eq_nil_iff] at this
    exact absurd this.2 hq
  | cons x r ih =>
    intro p q hf h hq
    rw [unl_cons] at h
    by_cases hp : p.length ≤ x.length
    · refine ⟨[], p, x :: r, rfl, ?_, rfl, by simp⟩
      have hpx : p <+: x := List.prefix_of_prefix_length_le (l₃ := x ++ 10 :: unl r) ⟨q, h.symm⟩ (List.prefix_append _ _) hp
      exact fun hm => hf x (by simp) (hpx.subset hm)
    · have hxp : x ++ [10] <+: p := List.prefix_of_prefix_length_le (l₃ := x ++ 10 :: unl r) ⟨unl r, by simp⟩ ⟨q, h.symm⟩ (by simp; omega)
      obtain ⟨p', rfl⟩ := hxp
      have h2 : unl r = p' ++ q := by
        simp only [List.append_assoc, List.cons_append, List.nil_append] at h
        have := List.append_cancel_left h
        simpa using this
      obtain ⟨A, tail, Q, e1, e2, e3, e4⟩ := ih p' q (fun y hy => hf y (List.mem_cons_of_mem _ hy)) h2 hq
      refine ⟨x :: A, tail, Q, ?_, e2, by rw [e3]; rfl, e4⟩
      rw [e1, unl_cons]
      simp

theorem mbox_take_le (l : List Ml) (k : Nat) : (mboxI (l.take k)).length ≤ (mboxI l).length := by
  conv => rhs; rw [← List.take_append_drop k l]
  unfold mboxI
  rw [List.flatMap_append, List.length_append]
  omega

theorem mbox_succ (l : List Ml) {i : Nat} (h : i < l.length) : mboxI (l.take (i + 1)) = mboxI (l.take i) ++ mailI (l.getD i ml0) := by
  unfold mboxI
  rw [List.take_add_one, List.flatMap_append, List.getElem?_eq_getElem h, List.getD_eq_getElem?_getD, List.getElem?_eq_getElem h]
  simp

theorem print_ok (N : Nat) (l : List Ml) (hc : mail_Check N l = some 0) (hl : l.length ≤ 60) (hf : ∀ e ∈ l, Fits e) (hN : 1048577 < N) : mail_Print N l = some (if 65536 < (mboxI l).length then ([], 2) else (mboxI l, 0)) := by
  unfold mail_Print
  rw [bindO_of hc, if_neg (by decide)]
  refine iter_rule (fun v => ∃ i : Nat, v = ((i : Int), mboxI (l.take i), ()) ∧ i ≤ l.length ∧ (mboxI (l.take i)).length ≤ 65536) (fun v => l.length - v.1.toNat)
    (fun o => o = some (if 65536 < (mboxI l).length then ([], 2) else (mboxI l, 0))) ?_ N _ ⟨0, rfl, Nat.zero_le _, by simp [mboxI]⟩ (by simp only; omega)
  rintro v again ⟨i, rfl, hi, hle⟩ hag
  by_cases hlt : i < l.length
  · rw [print_round N _ _ _ _ l i _ hlt hl (hf _ (ml_mem hlt)) hle, ← mbox_succ l hlt]
    by_cases hbig : 65536 < (mboxI (l.take (i + 1))).length
    · rw [if_pos hbig, if_pos (Nat.lt_of_lt_of_le hbig (mbox_take_le l _))]
    · rw [if_neg hbig]
      exact hag _ ⟨i + 1, rfl, by omega, by omega⟩ (by simp only; omega)
  · have : i = l.length := by omega
    subst this
    rw [List.take_length] at hle ⊢
    unfold mail_Print.s0
    simp only [decide_eq_true_eq]
    rw [if_neg (by omega), if_neg (by omega)]

theorem fact_print (N : Nat) (hN : 1048577 < N) : mail_Print N [([97], ((5 : Int), ([98], ([], (false, ([], []))))))] = some ([109, 97, 105, 108, 32, 98, 32, 97, 32, 53, 10, 97, 98, 111, 117, 116, 32, 10, 46, 10], 0) := by
  have hs : ∀ e ∈ ([([97], ((5 : Int), ([98], ([], (false, ([], []))))))] : List Ml), Small e := by
    intro e he
    simp only [List.mem_singleton] at he
    subst he
    unfold Small
    decide
  obtain ⟨r, h1, h2⟩ := mcheck_res N [([97], ((5 : Int), ([98], ([], (false, ([], []))))))] hs hN
  have hr : r = 0 := resM_unique h2 (Or.inr ⟨by decide, Or.inr ⟨fun j hj => by
    have : j = 0 := by simp at hj; omega
    subst this
    decide, rfl⟩⟩)
  subst hr
  have hf : ∀ e ∈ ([([97], ((5 : Int), ([98], ([], (false, ([], []))))))] : List Ml), Fits e := fun e he => fits_of ((resM_zero h2).2 e he) (hs e he)
  have hp := print_ok N _ h1 (by decide) hf hN
  have em : mboxI [([97], ((5 : Int), ([98], ([], (false, ([], []))))))] = [109, 97, 105, 108, 32, 98, 32, 97, 32, 53, 10, 97, 98, 111, 117, 116, 32, 10, 46, 10] := by decide +kernel
  rw [hp, em]
  rfl

/-- messages that Read takes one after the other -/
structure Box (N : Nat) (ms : List Ml) : Prop where
  few : ms.length ≤ 60
  one : ∀ e ∈ ms, oneI e = 0
  chk : ∀ k, k ≤ ms.length → mail_Check N (ms.take k) = some 0

theorem lines_pos (m : Ml) : 0 < (unl (linesM m)).length := by
  unfold linesM
  rw [unl_cons, List.length_append, List.length_cons]
  omega

theorem boxLines : ∀ (ms : List Ml), (∀ e ∈ ms, oneI e = 0) → unl (ms.flatMap linesM) = mboxI ms := by
  intro ms
  induction ms with
  | nil => intro _; rfl
  | cons m r ih =>
    intro h
    have h0 := h m (by simp)
    rw [List.flatMap_cons, unl_app, ih fun e he => h e (List.mem_cons_of_mem _ he), unl_lines m (oneI_text h0).2.2.2.2.2.2.1]
    rfl

theorem lines_len_le : ∀ (ls : List (List Int)), ls.length ≤ (unl ls).length := by
  intro ls
  induction ls with
  | nil => simp [unl]
  | cons x r ih =>
    rw [unl_cons]
    simp only [List.length_cons, List.length_append]
    omega

theorem read_box (N : Nat) (ms : List Ml) (hm : Box N ms) (A : List (List Int)) (tail : List Int) (hA : mailL A = none) (hAf : ∀ x ∈ A, (10 : Int) ∉ x) (ht : (10 : Int) ∉ tail) (hs : (mboxI ms ++ (unl A ++ tail)).length ≤ 65536) (hN : 1048577 < N) :
    mail_Read N (mboxI ms ++ (unl A ++ tail)) = some (if unl A ++ tail = [] then (ms, ((0 : Int), (0 : Int))) else (ms, (((mboxI ms).length : Int), (3 : Int)))) := by
  obtain ⟨s, hse⟩ : ∃ s, mboxI ms ++ (unl A ++ tail) = s := ⟨_, rfl⟩
  rw [hse] at hs ⊢
  have few := hm.few
  unfold mail_Read
  simp only [decide_eq_true_eq]
  rw [if_neg (by omega)]
  have hat : ∀ i, i ≤ ms.length → At s tail ((ms.drop i).flatMap linesM ++ A) (mboxI (ms.take i)).length := by
    intro i hi
    have e1 : s = mboxI (ms.take i) ++ (mboxI (ms.drop i) ++ (unl A ++ tail)) := by
      rw [← hse, ← List.append_assoc (mboxI (ms.take i))]
      congr 1
      unfold mboxI
      rw [← List.flatMap_append, List.take_append_drop]
    refine ⟨by rw [e1, List.length_append]; omega, ?_, fun x hx => ?_, ht⟩
    · rw [e1, List.drop_left' rfl, unl_app, boxLines _ fun e he => hm.one e (List.mem_of_mem_drop he), List.append_assoc]
    · rcases List.mem_append.1 hx with hx | hx
      · obtain ⟨m, hm1, hm2⟩ := List.mem_flatMap.1 hx
        exact lines_free (hm.one m (List.mem_of_mem_drop hm1)) x hm2
      · exact hAf x hx
  refine iter_rule (fun v => ∃ (i p : Nat), v = (ms.take i, s, (p : Int), ()) ∧ i ≤ ms.length ∧ p = (mboxI (ms.take i)).length) (fun v => ms.length - v.1.length)
    (fun o => o = some (if unl A ++ tail = [] then (ms, ((0 : Int), (0 : Int))) else (ms, (((mboxI ms).length : Int), (3 : Int))))) ?_ N _ ⟨0, 0, rfl, Nat.zero_le _, rfl⟩ (by simp only [List.length_nil]; omega)
  rintro v again ⟨i, p, rfl, hi, hp⟩ hag
  have h := hat i hi
  rw [← hp] at h
  have hpl : p + (unl ((ms.drop i).flatMap linesM ++ A) ++ tail).length = s.length := by
    have := congrArg List.length h.eq
    have := h.le
    rw [List.length_drop] at *
    omega
  have hln : ((ms.drop i).flatMap linesM ++ A).length ≤ 65536 := by
    have := lines_len_le ((ms.drop i).flatMap linesM ++ A)
    rw [List.length_append] at hpl
    omega
  obtain ⟨m, ok, q, hr, hres⟩ := mail_step N s tail hs hN _ p h hln
  unfold mail_Read.s0
  simp only [decide_eq_true_eq]
  by_cases hlt : i < ms.length
  · have hdrop : ms.drop i = ms.getD i ml0 :: ms.drop (i + 1) := by
      rw [List.drop_eq_getElem_cons hlt, List.getD_eq_getElem?_getD, List.getElem?_eq_getElem hlt]
      rfl
    have h1 := hm.one _ (ml_mem hlt)
    have htake : ms.take (i + 1) = ms.take i ++ [ms.getD i ml0] := by
      rw [List.take_add_one, List.getElem?_eq_getElem hlt, List.getD_eq_getElem?_getD, List.getElem?_eq_getElem hlt]
      rfl
    rw [hdrop, List.flatMap_cons, List.append_assoc, mail_back h1] at hres
    simp only at hres
    obtain ⟨r1, r2, r3⟩ := hres
    have hpos := lines_pos (ms.getD i ml0)
    rw [hdrop, List.flatMap_cons, List.append_assoc, unl_app] at hpl
    simp only [List.length_append] at hpl
    rw [if_pos (by omega), bindO_of hr]
    simp only [r2, if_true]
    have hol : (ms.take i).length = i := by rw [List.length_take]; omega
    rw [gate_pos (by rw [bounds_of (by omega) (by omega) (by omega)]; simp), cut_all, gate_pos (by rw [room_of (by simp only [List.length_cons, List.length_nil]; omega) (by simp only [List.length_cons, List.length_nil]; omega)]; rfl), r1, ← htake, bindO_of (hm.chk (i + 1) (by omega)), if_neg (by decide)]
    rw [g_room (by simp only [List.length_cons, List.length_nil]; omega) (by simp only [List.length_cons, List.length_nil]; omega)]
    refine hag _ ⟨i + 1, q, rfl, by omega, ?_⟩ (by simp only [hol, List.length_take]; omega)
    have h2 := hat (i + 1) (by omega)
    have e1 := congrArg List.length r3.eq
    have e2 := congrArg List.length h2.eq
    have e3 := r3.le
    have e4 := h2.le
    rw [List.length_drop] at e1 e2
    omega
  · have : i = ms.length := by omega
    subst this
    rw [List.take_length] at hp ⊢
    rw [List.drop_length, List.flatMap_nil, List.nil_append] at hres hpl
    by_cases he : unl A ++ tail = []
    · rw [he] at hpl
      simp only [List.length_nil] at hpl
      rw [if_neg (by omega), if_pos he]
    · have := List.length_pos_iff.2 he
      rw [if_pos (by omega), bindO_of hr]
      rw [hA] at hres
      simp only at hres
      simp only [hres, Bool.false_eq_true, if_false]
      rw [if_neg he, hp]

theorem read_all (N : Nat) (ms : List Ml) (hm : Box N ms) (hs : (mboxI ms).length ≤ 65536) (hN : 1048577 < N) : mail_Read N (mboxI ms) = some (ms, ((0 : Int), (0 : Int))) := by
  have := read_box N ms hm [] [] rfl (fun _ h => by cases h) (by simp) (by simpa [unl] using hs) hN
  simpa [unl] using this

theorem below_eq (N : Nat) (x n : Int) (h1 : 1 ≤ n) (h2 : n ≤ 4294967296) : wrackmake_Below N x n = some (x % n) := by
  unfold wrackmake_Below
  rw [gate_pos (by simp; omega)]
  simp only [decide_eq_true_eq]
  have hb := Int.emod_nonneg x (show n ≠ 0 by omega)
  have hl := Int.emod_lt_of_pos x (show 0 < n by omega)
  have hm : Int.tmod x n = if 0 ≤ x ∨ n ∣ x then x % n else x % n - n := by
    rw [Int.tmod_eq_emod]
    by_cases hc : 0 ≤ x ∨ n ∣ x
    · rw [if_pos hc, if_pos hc]; omega
    · rw [if_neg hc, if_neg hc]; omega
  by_cases hc : 0 ≤ x ∨ n ∣ x
  · rw [if_pos hc] at hm
    rw [hm, if_neg (by omega)]
  · rw [if_neg hc] at hm
    rw [hm, if_pos (by omega), w64 (by omega) (by omega)]
    congr 1
    omega

theorem next_eq (N : Nat) (l : List Int) (n : Int) (h1 : 1 ≤ n) (h2 : n ≤ 4294967296) : ∃ r l', wrackmake_Stream_Next N (l, ()) n = some (r, (l', ())) ∧ 0 ≤ r ∧ r < n := by
  unfold wrackmake_Stream_Next
  simp only [decide_eq_true_eq]
  by_cases hl : l.length = 0
  · have hb : (if (l.length : Int) = 0 then some true else some (decide (n < 1))) = some true := by rw [if_pos (by omega)]
    rw [bindO_of hb, if_pos rfl]
    exact ⟨0, l, rfl, by omega, by omega⟩
  · have hb : (if (l.length : Int) = 0 then some true else some (decide (n < 1))) = some false := by
      rw [if_neg (by omega)]; simp; omega
    rw [bindO_of hb, if_neg (by simp), gate_pos (inR_of (by omega) (by omega)), gate_pos (bounds_of (by omega) (by omega) (by omega)), bindO_of (below_eq N _ n h1 h2)]
    exact ⟨_, _, rfl, Int.emod_nonneg _ (by omega), Int.emod_lt_of_pos _ (by omega)⟩

def TextOK (t : List Int) (j : Nat) : Prop := endsB t = true ∧ (t.filter fun x => decide (x ≠ 10)).all plainCh = true ∧ t.length ≤ 11 * j

structure MsgOK (m : Ml) (i : Nat) : Prop where
  fr : nameB m.1 = true
  id : m.2.2.1 = [109, ((97 + i : Nat) : Int)]
  rf : refB m.2.2.2.1 = true
  tm : 0 ≤ m.2.1 ∧ m.2.1 < 1000
  ab : m.2.2.2.2.2.1.all plainCh = true ∧ m.2.2.2.2.2.1.length ≤ 5
  tx : TextOK m.2.2.2.2.2.2 3

structure DrawnM (l : List Ml) : Prop where
  few : l.length ≤ 6
  all : ∀ i, i < l.length → MsgOK (l.getD i ml0) i

theorem line_text (i : Int) (h1 : 0 ≤ i) (h2 : i < 6) : ∀ p, getI [] ([[108, 105, 110, 101], [46], [46, 46, 120], [], [109, 97, 105, 108, 32, 97, 32, 98, 32, 53], [97, 98, 111, 117, 116, 32, 121]] : List (List Int)) i = p → ((p ++ [10]).filter fun x => decide (x ≠ 10)).all plainCh = true ∧ (p ++ [10]).length ≤ 11 := by
  intro p hp
  obtain ⟨n, rfl⟩ := Int.eq_ofNat_of_zero_le h1
  have : n < 6 := by omega
  subst hp
  match n, this with
  | 0, _ => decide
  | 1, _ => decide
  | 2, _ => decide
  | 3, _ => decide
  | 4, _ => decide
  | 5, _ => decide

theorem TextOK.add {t p : List Int} {j : Nat} (h : TextOK t j) (hp : ((p ++ [10]).filter fun x => decide (x ≠ 10)).all plainCh = true ∧ (p ++ [10]).length ≤ 11) : TextOK (t ++ (p ++ [10])) (j + 1) := by
  obtain ⟨h1, h2, h3⟩ := h
  refine ⟨?_, ?_, ?_⟩
  · unfold endsB
    rw [← List.append_assoc, List.getLast?_concat]
    simp
  · rw [List.filter_append, List.all_append, h2, hp.1]; rfl
  · rw [List.length_append]; have := hp.2; omega

theorem linesDraw {R : Type} (N : Nat) (s : R) (k2 : (List Ml × List Int × List Int × Int × List Int × List Int × Bool × List Int × List Int × Unit) → R) (c1 c2 : Int) (k : Nat) (out : List Ml) (rest : List Int) (a1 : List Int) (a2 : Int) (a3 a4 : List Int) (a5 : Bool) (a6 : List Int) (hk : k ≤ 3)
    (Q : R → Prop) (hq : ∀ rest' t, TextOK t k → Q (k2 (out, rest', a1, a2, a3, a4, a5, a6, t, ()))) (n : Nat) (hn : 3 < n) :
    Q (iter (wrackkeep2_messages.s1 N s k2 (c1, c2, (k : Int), ())) s n (out, (0 : Int), rest, a1, a2, a3, a4, a5, a6, [], ())) := by
  refine iter_rule (fun v => ∃ (rest' t : List Int) (j : Nat), v = (out, (j : Int), rest', a1, a2, a3, a4, a5, a6, t, ()) ∧ j ≤ k ∧ TextOK t j) (fun v => k - v.2.1.toNat) Q ?_ n _ ⟨rest, [], 0, rfl, Nat.zero_le _, by unfold TextOK; exact ⟨rfl, rfl, by simp⟩⟩ (by simp only; omega)
  rintro v again ⟨rest', t, j, rfl, hj, ht⟩ hag
  unfold wrackkeep2_messages.s1
  simp only [decide_eq_true_eq]
  by_cases hlt : j < k
  · obtain ⟨q, l2, e1, b1, b2⟩ := next_eq N rest' 6 (by omega) (by omega)
    rw [if_pos (by omega), bindO_of e1]
    simp only
    rw [gate_pos (inR_of b1 (by simpa using b2)), gate_pos (inR_of b1 (by simpa using b2))]
    have hp := line_text q b1 b2 _ rfl
    generalize getI [] ([[108, 105, 110, 101], [46], [46, 46, 120], [], [109, 97, 105, 108, 32, 97, 32, 98, 32, 53], [97, 98, 111, 117, 116, 32, 121]] : List (List Int)) q = p at *
    have hl := ht.2.2
    have hpl := hp.2
    rw [List.length_append] at hpl
    simp only [List.length_cons, List.length_nil] at hpl
    rw [g_dec (by simp only [List.length_cons, List.length_nil]; omega), g_dec (by simp only [List.length_append, List.length_cons, List.length_nil]; omega), w64 (by omega) (by omega)]
    exact hag _ ⟨l2, _, j + 1, rfl, by omega, ht.add hp⟩ (by simp only; omega)
  · rw [if_neg (by omega)]
    have : j = k := by omega
    subst this
    exact hq rest' t ht

theorem from_ok (i : Int) (h1 : 0 ≤ i) (h2 : i < 2) : nameB (getI [] ([[97, 110, 110], [98, 111, 98]] : List (List Int)) i) = true := by
  obtain ⟨n, rfl⟩ := Int.eq_ofNat_of_zero_le h1
  have : n < 2 := by omega
  match n, this with
  | 0, _ => decide
  | 1, _ => decide

theorem about_ok (i : Int) (h1 : 0 ≤ i) (h2 : i < 3) : (getI [] ([[], [120], [114, 101, 58, 32, 120]] : List (List Int)) i).all plainCh = true ∧ (getI [] ([[], [120], [114, 101, 58, 32, 120]] : List (List Int)) i).length ≤ 5 := by
  obtain ⟨n, rfl⟩ := Int.eq_ofNat_of_zero_le h1
  have : n < 3 := by omega
  match n, this with
  | 0, _ => decide
  | 1, _ => decide
  | 2, _ => decide

theorem mid_ok (k : Nat) (h : k < 6) : nameB [109, ((97 + k : Nat) : Int)] = true := by
  match k, h with
  | 0, _ => decide
  | 1, _ => decide
  | 2, _ => decide
  | 3, _ => decide
  | 4, _ => decide
  | 5, _ => decide

theorem DrawnM.add {l : List Ml} (h : DrawnM l) (hl : l.length < 6) {m : Ml} (hm : MsgOK m l.length) : DrawnM (l ++ [m]) := by
  refine ⟨by rw [List.length_append]; simp; omega, fun i hi => ?_⟩
  simp only [List.length_append, List.length_cons, List.length_nil] at hi
  by_cases h2 : i < l.length
  · rw [List.getD_eq_getElem?_getD, List.getElem?_append_left h2, ← List.getD_eq_getElem?_getD]
    exact h.all i h2
  · have : i = l.length := by omega
    subst this
    rw [List.getD_eq_getElem?_getD, List.getElem?_append_right (Nat.le_refl _), Nat.sub_self]
    exact hm

theorem messages_ok (N : Nat) (l : List Int) (hN : 1048577 < N) : ∃ ms, wrackkeep2_messages N l = some ms ∧ DrawnM ms := by
  unfold wrackkeep2_messages
  obtain ⟨r1, l1, e1, a1, a2⟩ := next_eq N l 7 (by omega) (by omega)
  rw [bindO_of e1]
  simp only
  obtain ⟨n, rfl⟩ := Int.eq_ofNat_of_zero_le a1
  refine iter_rule (fun v => ∃ (rest : List Int) (out : List Ml), v = (out, (out.length : Int), rest, ()) ∧ out.length ≤ n ∧ DrawnM out) (fun v => n - v.1.length)
    (fun r => ∃ its, r = some its ∧ DrawnM its) ?_ N _ ⟨l1, [], rfl, by simp, by simp, fun i hi => absurd hi (by simp)⟩ (by simp; omega)
  rintro v again ⟨rest, out, rfl, ho, hd⟩ hag
  unfold wrackkeep2_messages.s0
  simp only [decide_eq_true_eq]
  by_cases hlt : out.length < n
  · rw [if_pos (by omega), w64 (x := (97 : Int) + (out.length : Int)) (by omega) (by omega)]
    have e2 : IntKind.wrap .i32 (97 + (out.length : Int)) = ((97 + out.length : Nat) : Int) := by
      simp [IntKind.wrap, IntKind.bits, IntKind.signed]
      omega
    rw [e2]
    obtain ⟨q1, l2, f1, b1, b2⟩ := next_eq N rest 2 (by omega) (by omega)
    obtain ⟨q2, l3, f2, b3, b4⟩ := next_eq N l2 1000 (by omega) (by omega)
    obtain ⟨q3, l4, f3, b5, b6⟩ := next_eq N l3 3 (by omega) (by omega)
    obtain ⟨q4, l5, f4, b7, b8⟩ := next_eq N l4 3 (by omega) (by omega)
    rw [bindO_of f1]
    simp only
    rw [gate_pos (inR_of b1 (by simpa using b2)), gate_pos (inR_of b1 (by simpa using b2)), bindO_of f2]
    simp only
    rw [g_dec (by omega), g_dec (by simp), bindO_of f3]
    simp only
    rw [bindO_of f4]
    simp only
    rw [gate_pos (inR_of b7 (by simpa using b8)), gate_pos (inR_of b7 (by simpa using b8))]
    have hfr := from_ok q1 b1 b2
    have hab := about_ok q4 b7 b8
    generalize getI [] ([[97, 110, 110], [98, 111, 98]] : List (List Int)) q1 = fr at *
    generalize getI [] ([[], [120], [114, 101, 58, 32, 120]] : List (List Int)) q4 = ab at *
    have hid : [(109 : Int)] ++ [((97 + out.length : Nat) : Int)] = [109, ((97 + out.length : Nat) : Int)] := rfl
    -- what comes behind the reference
    have fin : ∀ (rf : List Int) (l6 : List Int), refB rf = true → ∃ its, (bindO (wrackmake_Stream_Next N (l6, ()) 4) (fun r52 => iter (wrackkeep2_messages.s1 N (none : Option (List Ml)) (fun x352 =>
          gate (roomFor (x352.1.length + [((x352.2.2.1, (x352.2.2.2.1, (x352.2.2.2.2.1, (x352.2.2.2.2.2.1, (x352.2.2.2.2.2.2.1, (x352.2.2.2.2.2.2.2.1, x352.2.2.2.2.2.2.2.2.1)))))) : Ml)].length) 96)
            (again (x352.1 ++ [((x352.2.2.1, (x352.2.2.2.1, (x352.2.2.2.2.1, (x352.2.2.2.2.2.1, (x352.2.2.2.2.2.2.1, (x352.2.2.2.2.2.2.2.1, x352.2.2.2.2.2.2.2.2.1)))))) : Ml)], IntKind.wrap .i64 ((out.length : Int) + 1), x352.2.1, ())) none) ((n : Int), (out.length : Int), r52.1, ())) none N (out, (0 : Int), r52.2.1, fr, q2, [109, ((97 + out.length : Nat) : Int)], rf, decide (q3 = 0), ab, [], ())) none) = some its ∧ DrawnM its := by
      intro rf l6 hrf
      obtain ⟨q5, l7, f5, d1, d2⟩ := next_eq N l6 4 (by omega) (by omega)
      rw [bindO_of f5]
      simp only
      obtain ⟨k, rfl⟩ := Int.eq_ofNat_of_zero_le d1
      refine linesDraw N none _ _ _ k out l7 fr q2 _ rf _ ab (by omega) (fun r => ∃ its, r = some its ∧ DrawnM its) (fun rest' t ht => ?_) N (by omega)
      simp only
      rw [gate_pos (room_of (by simp; omega) (by simp; omega)), w64 (by omega) (by omega)]
      refine hag _ ⟨rest', out ++ [(fr, q2, [109, ((97 + out.length : Nat) : Int)], rf, decide (q3 = 0), ab, t)], by simp, by simp; omega, hd.add (by omega) ⟨hfr, rfl, hrf, ⟨b3, b4⟩, hab, ?_⟩⟩ (by simp; omega)
      obtain ⟨t1, t2, t3⟩ := ht
      exact ⟨t1, t2, Nat.le_trans t3 (by omega)⟩
    by_cases hpos : (out.length : Int) > 0
    · rw [if_pos hpos]
      obtain ⟨q6, l6, f6, d1, d2⟩ := next_eq N l5 2 (by omega) (by omega)
      rw [bindO_of f6]
      simp only
      by_cases h0 : q6 = 0
      · rw [if_pos h0]
        obtain ⟨q7, l7, f7, d3, d4⟩ := next_eq N l6 (out.length : Int) (by omega) (by omega)
        rw [bindO_of f7]
        simp only
        obtain ⟨k, rfl⟩ := Int.eq_ofNat_of_zero_le d3
        rw [w64 (x := (97 : Int) + (k : Int)) (by omega) (by omega)]
        have e3 : IntKind.wrap .i32 (97 + (k : Int)) = ((97 + k : Nat) : Int) := by
          simp [IntKind.wrap, IntKind.bits, IntKind.signed]
          omega
        rw [e3, g_dec (by omega), g_dec (by simp), b_some]
        simp only
        exact fin [109, ((97 + k : Nat) : Int)] l7 (by unfold refB; rw [mid_ok k (by omega), Bool.or_true])
      · rw [if_neg h0, b_some]
        simp only
        exact fin [] l6 rfl
    · rw [if_neg hpos]
      exact fin [] l5 rfl
  · rw [if_neg (by omega)]
    exact ⟨out, rfl, hd⟩

theorem MsgOK.one {m : Ml} {i : Nat} (h : MsgOK m i) (hi : i < 6) : oneI m = 0 := by
  obtain ⟨h1, h2, h3, h4, h5, h6⟩ := h
  unfold oneI
  rw [h1, h2, mid_ok i hi, h3, if_neg (by decide), if_neg (by omega), h5.1, h6.1, h6.2.1, if_neg (by decide)]

theorem nameB_len12 {s : List Int} (h : nameB s = true) : s.length ≤ 12 := by
  cases s with
  | nil => cases h
  | cons x r =>
    simp only [nameB, Bool.and_eq_true, decide_eq_true_eq] at h
    exact h.1

theorem MsgOK.small {m : Ml} {i : Nat} (h : MsgOK m i) : Small m := by
  obtain ⟨h1, h2, h3, h4, h5, h6⟩ := h
  have a := nameB_len12 h1
  have b : m.2.2.2.1.length ≤ 12 := by
    unfold refB at h3
    simp only [Bool.or_eq_true, decide_eq_true_eq] at h3
    rcases h3 with h | h
    · rw [h]; simp
    · exact nameB_len12 h
  have c : m.2.2.1.length = 2 := by rw [h2]; rfl
  have d := h6.2.2
  have e := h5.2
  exact ⟨by omega, by omega, by omega, by omega, by omega⟩

theorem DrawnM.mem {l : List Ml} (h : DrawnM l) {e : Ml} (he : e ∈ l) : ∃ i, i < 6 ∧ MsgOK e i := by
  obtain ⟨i, hi, rfl⟩ := List.getElem_of_mem he
  have := h.all i hi
  rw [List.getD_eq_getElem?_getD, List.getElem?_eq_getElem hi] at this
  exact ⟨i, by have := h.few; omega, this⟩

theorem DrawnM.small {l : List Ml} (h : DrawnM l) : ∀ e ∈ l, Small e := fun e he => by
  obtain ⟨i, _, hm⟩ := h.mem he
  exact hm.small

theorem DrawnM.res {l : List Ml} (h : DrawnM l) : ResM l 0 := by
  have hf := h.few
  refine Or.inr ⟨by omega, Or.inr ⟨fun j hj => ?_, rfl⟩⟩
  have hm := h.all j hj
  unfold mailAt
  rw [if_pos (hm.one (by omega)), if_neg]
  unfold seenM
  rw [Bool.not_eq_true, List.any_eq_false]
  intro x hx
  simp only [decide_eq_true_eq]
  intro e
  obtain ⟨k, hk, rfl⟩ := List.getElem_of_mem hx
  rw [List.length_take] at hk
  have hk2 := h.all k (by omega)
  rw [List.getElem_take] at e
  have e3 : (l.getD k ml0).2.2.1 = (l.getD j ml0).2.2.1 := by
    rw [← e]
    simp [List.getD_eq_getElem?_getD, show k < l.length by omega]
  rw [hk2.id, hm.id] at e3
  simp only [List.cons.injEq, true_and, and_true] at e3
  omega

theorem DrawnM.check {N : Nat} {l : List Ml} (h : DrawnM l) (hN : 1048577 < N) : mail_Check N l = some 0 := by
  obtain ⟨r, h1, h2⟩ := mcheck_res N l h.small hN
  have := resM_unique h2 h.res
  subst this
  exact h1

theorem kmails_true (N : Nat) (hN : 1048577 < N) : wrackkeep2_mails N = some true := by
  unfold wrackkeep2_mails
  simp only
  rw [bindO_of (fact_print N hN)]
  rfl

theorem bsameMails (N : Nat) (a : List Ml) (ha : a.length ≤ 1048576) (hN : 1048577 < N) : slices_Equal_mail_Mail N a a = some true := by
  unfold slices_Equal_mail_Mail
  simp only [decide_true, Bool.not_true, Bool.false_eq_true, if_false]
  refine iter_rule (fun v => ∃ i : Nat, v = ((i : Int), ()) ∧ i ≤ a.length) (fun v => a.length - v.1.toNat) (fun o => o = some true) ?_ N _ ⟨0, rfl, Nat.zero_le _⟩ (by simp only; omega)
  rintro v again ⟨i, rfl, hi⟩ hag
  unfold slices_Equal_mail_Mail.s0
  simp only [decide_eq_true_eq]
  by_cases hlt : i < a.length
  · rw [if_pos (by omega), gate_pos (inR_of (by omega) (by omega)), gate_pos (inR_of (by omega) (by omega)), w64 (by omega) (by omega)]
    rw [if_neg (by simp)]
    exact hag _ ⟨i + 1, rfl, by omega⟩ (by simp only; omega)
  · rw [if_neg (by omega)]

theorem DrawnM.take {l : List Ml} (h : DrawnM l) (k : Nat) : DrawnM (l.take k) := by
  have hf := h.few
  refine ⟨by rw [List.length_take]; omega, fun i hi => ?_⟩
  rw [List.length_take] at hi
  have : (l.take k).getD i ml0 = l.getD i ml0 := by
    rw [List.getD_eq_getElem?_getD, List.getElem?_take_of_lt (by omega), ← List.getD_eq_getElem?_getD]
  rw [this]
  exact h.all i (by omega)

theorem DrawnM.box {N : Nat} {l : List Ml} (h : DrawnM l) (hN : 1048577 < N) : Box N l := by
  have hf := h.few
  refine ⟨by omega, fun e he => ?_, fun k _ => (h.take k).check hN⟩
  obtain ⟨i, hi, hm⟩ := h.mem he
  exact hm.one hi

theorem MsgOK.len {m : Ml} {i : Nat} (h : MsgOK m i) : (mailI m).length ≤ 2000 := by
  obtain ⟨h1, h2, h3, h4, h5, h6⟩ := h
  have a := nameB_len12 h1
  have b := refB_len h3
  have c : m.2.2.1.length = 2 := by rw [h2]; rfl
  have d := h6.2.2
  have e := h5.2
  have f := itoaI_len h4.1
  have g := bodyI_len m.2.2.2.2.2.2
  unfold mailI topI headI refI goneI aboutI
  split <;> split <;> simp only [List.length_append, List.length_cons, List.length_nil] <;> omega

theorem DrawnM.len {l : List Ml} (h : DrawnM l) : (mboxI l).length ≤ 12000 := by
  have key : ∀ (l : List Ml), (∀ e ∈ l, (mailI e).length ≤ 2000) → (mboxI l).length ≤ 2000 * l.length := by
    intro l
    induction l with
    | nil => intro _; simp [mboxI]
    | cons x r ih =>
      intro hl
      have h1 := hl x (by simp)
      have h2 := ih fun e he => hl e (List.mem_cons_of_mem _ he)
      unfold mboxI at h2 ⊢
      rw [List.flatMap_cons, List.length_append, List.length_cons]
      omega
  have := key l fun e he => by
    obtain ⟨i, _, hm⟩ := h.mem he
    exact hm.len
  have := h.few
  omega

theorem DrawnM.print {N : Nat} {l : List Ml} (h : DrawnM l) (hN : 1048577 < N) : mail_Print N l = some (mboxI l, 0) := by
  have hf := h.few
  have hl := h.len
  have := print_ok N l (h.check hN) (by omega) (fun e he => by
    obtain ⟨i, hi, hm⟩ := h.mem he
    exact fits_of (hm.one hi) hm.small) hN
  rw [if_neg (by omega)] at this
  exact this

theorem wholeLoop {R : Type} (N : Nat) (s : R) (K : (List Ml × Int × Unit) → R) (all : List Ml) (c : Nat) (t : List Int) (hd : DrawnM all) (hN : 1048577 < N) (Q : R → Prop)
    (h : ∀ w : Nat, w ≤ all.length → (mboxI (all.take w)).length ≤ c → (∀ k, w < k → k ≤ all.length → c < (mboxI (all.take k)).length) → Q (K (all, (w : Int), ()))) (n : Nat) (hn : all.length + 1 < n) :
    Q (iter (wrackkeep2_MailBack.s0 N s K ((c : Int), t, ((all.length + 1 : Nat) : Int), ())) s n (all, (0 : Int), (0 : Int), ())) := by
  have hf := hd.few
  refine iter_rule (fun v => ∃ w i : Nat, v = (all, (w : Int), (i : Int), ()) ∧ i ≤ all.length + 1 ∧ w ≤ all.length ∧ (mboxI (all.take w)).length ≤ c ∧ ∀ k, w < k → k < i → c < (mboxI (all.take k)).length) (fun v => all.length + 1 - v.2.2.1.toNat) Q ?_ n _
    ⟨0, 0, rfl, Nat.zero_le _, Nat.zero_le _, by simp [mboxI], fun k h1 h2 => by omega⟩ (by simp only; omega)
  rintro v again ⟨w, i, rfl, hi, hw, hle, hall⟩ hag
  unfold wrackkeep2_MailBack.s0
  simp only [decide_eq_true_eq]
  by_cases hlt : i < all.length + 1
  · rw [if_pos (by omega), gate_pos (bounds_of (by omega) (by omega) (by omega)), mcut_take, bindO_of ((hd.take i).print hN), w64 (by omega) (by omega)]
    simp only [if_true]
    rw [b_some]
    by_cases hc : (mboxI (all.take i)).length ≤ c
    · rw [decide_eq_true (show ((mboxI (all.take i)).length : Int) ≤ (c : Int) by omega), if_pos rfl]
      exact hag _ ⟨i, i + 1, rfl, by omega, by omega, hc, fun k h1 h2 => by omega⟩ (by simp only; omega)
    · rw [decide_eq_false (show ¬ ((mboxI (all.take i)).length : Int) ≤ (c : Int) by omega), if_neg (by decide)]
      refine hag _ ⟨w, i + 1, rfl, by omega, hw, hle, fun k h1 h2 => ?_⟩ (by simp only; omega)
      rcases Nat.lt_or_eq_of_le (Nat.le_of_lt_succ h2) with h3 | h3
      · exact hall k h1 h3
      · subst h3; omega
  · rw [if_neg (by omega)]
    exact h w hw hle fun k h1 h2 => hall k h1 (by omega)

theorem below_nat (N : Nat) (x : Int) (n : Nat) (h1 : 1 ≤ n) (h2 : n ≤ 4294967296) : ∃ c : Nat, wrackmake_Below N x (n : Int) = some (c : Int) ∧ c < n := by
  refine ⟨(x % (n : Int)).toNat, ?_, ?_⟩
  · rw [below_eq N x n (by omega) (by omega)]
    congr 1
    have := Int.emod_nonneg x (show (n : Int) ≠ 0 by omega)
    omega
  · have := Int.emod_nonneg x (show (n : Int) ≠ 0 by omega)
    have := Int.emod_lt_of_pos x (show 0 < (n : Int) by omega)
    omega

theorem mailBack_true (N : Nat) (l : List Int) (cut1 : Int) (hN : 1048577 < N) : wrackkeep2_MailBack N l cut1 = some true := by
  obtain ⟨all, e1, hd⟩ := messages_ok N l hN
  have hf := hd.few
  have hlen := hd.len
  unfold wrackkeep2_MailBack
  rw [bindO_of e1, bindO_of (hd.print hN)]
  simp only
  rw [bindO_of (read_all N all (hd.box hN) (by omega) hN)]
  simp only
  rw [kmails_true N hN, bsameMails N all (by omega) hN]
  simp only [bindO, Bool.not_true, Bool.false_eq_true, if_false, decide_true]
  rw [w64 (x := ((mboxI all).length : Int) + 1) (by omega) (by omega), w64 (x := (all.length : Int) + 1) (by omega) (by omega)]
  obtain ⟨c, e2, hc⟩ := below_nat N cut1 ((mboxI all).length + 1) (by omega) (by omega)
  rw [show ((mboxI all).length : Int) + 1 = (((mboxI all).length + 1 : Nat) : Int) by omega, e2]
  simp only
  rw [show (all.length : Int) + 1 = ((all.length + 1 : Nat) : Int) by omega]
  refine wholeLoop N none _ all c (mboxI all) hd hN (fun o => o = some true) (fun w hw hle hgt => ?_) N (by omega)
  simp only
  rw [gate_pos (bounds_of (by omega) (by omega) (by omega)), mcut_take]
  -- what was cut: whole messages and a piece
  have hsplit : ∃ (A : List (List Int)) (tail : List Int), (mboxI all).take c = mboxI (all.take w) ++ (unl A ++ tail) ∧ mailL A = none ∧ (∀ x ∈ A, (10 : Int) ∉ x) ∧ (10 : Int) ∉ tail := by
    have hall : mboxI all = mboxI (all.take w) ++ mboxI (all.drop w) := by
      unfold mboxI
      rw [← List.flatMap_append, List.take_append_drop]
    have htk : (mboxI all).take c = mboxI (all.take w) ++ (mboxI (all.drop w)).take (c - (mboxI (all.take w)).length) := by
      rw [hall, List.take_append, List.take_of_length_le hle]
    by_cases hlt : w < all.length
    · have hdrop : all.drop w = all.getD w ml0 :: all.drop (w + 1) := by
        rw [List.drop_eq_getElem_cons hlt, List.getD_eq_getElem?_getD, List.getElem?_eq_getElem hlt]
        rfl
      have hm := hd.all w hlt
      have h1 := hm.one (by omega)
      have hbig := hgt (w + 1) (by omega) (by omega)
      rw [mbox_succ all hlt, List.length_append] at hbig
      have hp : (mboxI (all.drop w)).take (c - (mboxI (all.take w)).length) = (mailI (all.getD w ml0)).take (c - (mboxI (all.take w)).length) := by
        rw [hdrop]
        show (mailI (all.getD w ml0) ++ mboxI (all.drop (w + 1))).take _ = _
        rw [List.take_append_of_le_length (by omega)]
      obtain ⟨A, tail, Q, g1, g2, g3, g4⟩ := unl_part (linesM (all.getD w ml0)) ((mailI (all.getD w ml0)).take (c - (mboxI (all.take w)).length)) ((mailI (all.getD w ml0)).drop (c - (mboxI (all.take w)).length)) (lines_free h1)
        (by rw [List.take_append_drop]; exact unl_lines _ (oneI_text h1).2.2.2.2.2.2.1) (by
          intro e
          have := congrArg List.length e
          rw [List.length_drop, List.length_nil] at this
          omega)
      refine ⟨A, tail, by rw [htk, hp, g1], mail_part h1 g3 g4, fun x hx => lines_free h1 x (by rw [g3]; exact List.mem_append_left _ hx), g2⟩
    · have : w = all.length := by omega
      subst this
      refine ⟨[], [], ?_, rfl, fun _ h => (by cases h), by simp⟩
      rw [htk, List.drop_length]
      simp [mboxI, unl]
  obtain ⟨A, tail, g1, g2, g3, g4⟩ := hsplit
  have hcl : ((mboxI all).take c).length = c := by rw [List.length_take]; omega
  have hread := read_box N (all.take w) ((hd.take w).box hN) A tail g2 g3 g4 (by rw [← g1, hcl]; omega) hN
  rw [← g1] at hread
  have htl : (mboxI (all.take w)).length ≤ c := hle
  have hpre : preB (mboxI (all.take w)) (mboxI all) = true := by
    unfold preB
    rw [decide_eq_true_eq]
    have : mboxI all = mboxI (all.take w) ++ mboxI (all.drop w) := by
      unfold mboxI
      rw [← List.flatMap_append, List.take_append_drop]
    rw [this, List.take_left' rfl]
  have hrep : mail_Repair N ((mboxI all).take c) = some (mboxI (all.take w), ((c : Int) - (mboxI (all.take w)).length, (0 : Int))) := by
    unfold mail_Repair
    rw [bindO_of hread]
    by_cases he : unl A ++ tail = []
    · rw [if_pos he]
      simp only
      rw [if_neg (by simp), if_pos (by simp)]
      have e3 : (mboxI all).take c = mboxI (all.take w) := by rw [g1, he, List.append_nil]
      have e4 := congrArg List.length e3
      rw [hcl] at e4
      rw [e3]
      congr 3
      omega
    · rw [if_neg he]
      simp only [decide_true, if_true]
      rw [gate_pos (bounds_of (by omega) (by omega) (by omega)), mcut_take, hcl, w64 (by omega) (by omega)]
      have e3 : ((mboxI all).take c).take (mboxI (all.take w)).length = mboxI (all.take w) := by rw [g1, List.take_left' rfl]
      rw [e3]
  rw [hrep]
  simp only
  rw [read_all N (all.take w) ((hd.take w).box hN) (by omega) hN]
  simp only [decide_true, if_true]
  rw [w64 (by omega) (by omega)]
  rw [if_pos (by rw [decide_eq_true_eq]; omega), hasPrefix_eq, hpre]
  simp only [if_true]
  rw [gate_pos (bounds_of (by omega) (by omega) (by omega)), mcut_take, bsameMails N (all.take w) (by rw [List.length_take]; omega) hN]

end Go.Proofs.YtnklmlnkiepdiaaDoor
