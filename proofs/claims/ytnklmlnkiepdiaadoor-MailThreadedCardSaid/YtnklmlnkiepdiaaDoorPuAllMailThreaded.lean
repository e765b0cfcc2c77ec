/-
  PLAIN: all plain texts that mailThreaded_true needs, in one.
-/
import Derived.Test.YtnklmlnkiepdiaaDoorAbPlain
import Derived.Test.YtnklmlnkiepdiaaDoorPu
import Derived.Test.YtnklmlnkiepdiaaDoorAbIterFn
import Derived.Test.YtnklmlnkiepdiaaDoorAbItoaFn
set_option linter.unusedVariables false
set_option linter.unusedSimpArgs false
namespace Go.Proofs.YtnklmlnkiepdiaaDoor
open Go Go.Ab

theorem below_eq (N : Nat) (x n : Int) (h1 : 1 ≤ n) (h2 : n ≤ 4294967296) : wrackmake_Below N x n = some (x % n) := by
  unfold wrackmake_Below
  rw [gate_pos (by simp; omega)]
  simp only [decide_eq_true_eq]
  have hb := Int.emod_nonneg x (show n ≠ 0 by omega)
  have hl := Int.emod_lt_of_pos x (show 0 < n by omega)
  have hm : Int.tmod x n = if 0 ≤ x ∨ n ∣ x then x % n else x % n - n := by
    rw [Int.tmod_eq_emod]
    by_cases hc : 0 ≤ x ∨ n ∣ x
    · rw [if_pos hc, if_pos hc]; omega
    · rw [if_neg hc, if_neg hc]; omega
  by_cases hc : 0 ≤ x ∨ n ∣ x
  · rw [if_pos hc] at hm
    rw [hm, if_neg (by omega)]
  · rw [if_neg hc] at hm
    rw [hm, if_pos (by omega), w64 (by omega) (by omega)]
    congr 1
    omega

theorem next_eq (N : Nat) (l : List Int) (n : Int) (h1 : 1 ≤ n) (h2 : n ≤ 4294967296) : ∃ r l', wrackmake_Stream_Next N (l, ()) n = some (r, (l', ())) ∧ 0 ≤ r ∧ r < n := by
  unfold wrackmake_Stream_Next
  simp only [decide_eq_true_eq]
  by_cases hl : l.length = 0
  · have hb : (if (l.length : Int) = 0 then some true else some (decide (n < 1))) = some true := by rw [if_pos (by omega)]
    rw [bindO_of hb, if_pos rfl]
    exact ⟨0, l, rfl, by omega, by omega⟩
  · have hb : (if (l.length : Int) = 0 then some true else some (decide (n < 1))) = some false := by
      rw [if_neg (by omega)]; simp; omega
    rw [bindO_of hb, if_neg (by simp), gate_pos (inR_of (by omega) (by omega)), gate_pos (bounds_of (by omega) (by omega) (by omega)), bindO_of (below_eq N _ n h1 h2)]
    exact ⟨_, _, rfl, Int.emod_nonneg _ (by omega), Int.emod_lt_of_pos _ (by omega)⟩

def nameCh (x : Int) : Bool := decide (97 ≤ x ∧ x ≤ 122) || decide (48 ≤ x ∧ x ≤ 57) || decide (x = 45)

def nameB (s : List Int) : Bool := match s with
  | [] => false
  | x :: r => decide (s.length ≤ 12) && (decide (97 ≤ x ∧ x ≤ 122) && s.all nameCh)

theorem named_eq (N : Nat) (s : List Int) (hs : s.length ≤ 1048576) (hN : 1048577 < N) : fs_Named N s = some (nameB s) := by
  unfold fs_Named
  cases s with
  | nil => rfl
  | cons x r =>
    have e0 : getI 0 (x :: r) (0 : Int) = x := rfl
    rw [if_neg (by simp)]
    by_cases hl : (x :: r).length ≤ 12
    · rw [if_neg (by simp only [decide_eq_true_eq]; omega), gate_pos (inR_of (by omega) (by simp)), gate_pos (inR_of (by omega) (by simp)), e0]
      simp only [decide_eq_true_eq]
      by_cases h1 : x < 97
      · rw [if_pos h1]
        have : nameB (x :: r) = false := by
          simp only [nameB]
          have : decide (97 ≤ x ∧ x ≤ 122) = false := by simp; omega
          rw [this]; simp
        rw [this]; rfl
      · rw [if_neg h1]
        by_cases h2 : x > 122
        · have : nameB (x :: r) = false := by
            simp only [nameB]
            have : decide (97 ≤ x ∧ x ≤ 122) = false := by simp; omega
            rw [this]; simp
          rw [this]
          simp [bindO, h2]
        · have hx : decide (97 ≤ x ∧ x ≤ 122) = true := by simp; omega
          have hnb : nameB (x :: r) = (x :: r).all nameCh := by
            simp only [nameB]
            rw [hx]
            simp only [Bool.true_and]
            rw [show decide ((x :: r).length ≤ 12) = true by simpa using hl]
            simp
          rw [hnb]
          simp only [bindO, h2, decide_false]
          rw [if_neg (by decide)]
          generalize hy : x :: r = y at *
          refine iter_rule (fun v => ∃ i : Nat, v = ((i : Int), ()) ∧ i ≤ y.length ∧ ∀ j : Nat, j < i → nameCh (y.getD j 0) = true) (fun v => y.length - v.1.toNat)
            (fun o => o = some (y.all nameCh)) ?_ N _ ⟨0, rfl, Nat.zero_le _, fun j hj => absurd hj (Nat.not_lt_zero _)⟩ (by simp only; omega)
          rintro v again ⟨i, rfl, hi, hall⟩ hag
          unfold fs_Named.s0
          simp only [decide_eq_true_eq]
          by_cases hlt : i < y.length
          · rw [if_pos (by omega), gate_pos (inR_of (by omega) (by omega)), getI_nat]
            generalize hz : y.getD i 0 = z
            have body : (if z < 97 then (if z < 48 then some (!decide (z = 45)) else if z > 57 then some (!decide (z = 45)) else some false) else if z > 122 then (if z < 48 then some (!decide (z = 45)) else if z > 57 then some (!decide (z = 45)) else some false) else some false : Option Bool) = some (!nameCh z) := by
              unfold nameCh
              repeat' split
              all_goals
                simp only [Option.some.injEq, Bool.not_or, Bool.false_eq, Bool.and_eq_false_imp]
                rw [Bool.eq_iff_iff]
                simp
                try omega
            rw [body]
            simp only [bindO]
            cases hc : nameCh z with
            | true =>
              simp only [Bool.not_true, Bool.false_eq_true, if_false]
              rw [w64 (by omega) (by omega)]
              refine hag _ ⟨i + 1, by simp, by omega, fun j hj => ?_⟩ (by simp only; omega)
              rcases Nat.lt_or_eq_of_le (Nat.le_of_lt_succ hj) with h | h
              · exact hall j h
              · subst h; rw [hz]; exact hc
            | false =>
              simp only [Bool.not_false, if_true, Option.some.injEq, Bool.false_eq]
              rw [List.all_eq_false]
              refine ⟨y[i], List.getElem_mem hlt, ?_⟩
              rw [List.getD_eq_getElem?_getD, List.getElem?_eq_getElem hlt] at hz
              simp only [Option.getD_some] at hz
              rw [hz, hc]
              simp
          · rw [if_neg (by omega)]
            simp only [Option.some.injEq, Bool.true_eq, List.all_eq_true]
            intro z hz
            obtain ⟨j, hj, rfl⟩ := List.getElem_of_mem hz
            have := hall j (by omega)
            rw [List.getD_eq_getElem?_getD, List.getElem?_eq_getElem hj] at this
            exact this
    · rw [if_pos (by simp only [decide_eq_true_eq]; omega)]
      have : nameB (x :: r) = false := by
        simp only [nameB]
        have : decide ((x :: r).length ≤ 12) = false := by simpa using hl
        rw [this]; simp
      rw [this]; rfl

/-- a text whose lines all end -/
def endsB (t : List Int) : Bool := decide (t = []) || decide (t.getLast? = some 10)

/-- a line, with a further dot where it begins with one -/
def dotI : List Int → List Int
  | [] => []
  | x :: r => if x = 46 then 46 :: x :: r else x :: r

theorem dotI_len (s : List Int) : (dotI s).length ≤ s.length + 1 := by
  cases s with
  | nil => simp [dotI]
  | cons x r => simp only [dotI]; split <;> simp

theorem mlines_len : ∀ t : List Int, (linesI t).length ≤ t.length := by
  intro t
  induction t with
  | nil => simp [linesI]
  | cons x r ih =>
    simp only [linesI]
    split
    · simp; omega
    · split
      · simp
      · rename_i h t' e
        rw [e] at ih
        simp at ih ⊢; omega

theorem mlines_flat : ∀ t : List Int, (linesI t).flatten = t := by
  intro t
  induction t with
  | nil => simp [linesI]
  | cons x r ih =>
    simp only [linesI]
    split
    · simp [ih]
    · split
      · rename_i e; rw [e] at ih; simp at ih ⊢; exact ih
      · rename_i h t' e; rw [e] at ih; simp at ih ⊢; exact ih

theorem mlines_ne : ∀ t : List Int, ∀ s ∈ linesI t, s ≠ [] := by
  intro t
  induction t with
  | nil => simp [linesI]
  | cons x r ih =>
    simp only [linesI]
    split
    · intro s hs; rcases List.mem_cons.1 hs with h | h
      · subst h; simp
      · exact ih s h
    · split
      · intro s hs; simp at hs; subst hs; simp
      · rename_i h t' e
        intro s hs
        rcases List.mem_cons.1 hs with h2 | h2
        · subst h2; simp
        · exact ih s (by rw [e]; exact List.mem_cons_of_mem _ h2)

theorem dots_len (ls : List (List Int)) : ((ls.map dotI).flatten).length ≤ ls.flatten.length + ls.length := by
  induction ls with
  | nil => simp
  | cons x r ih =>
    have := dotI_len x
    simp only [List.map_cons, List.flatten_cons, List.length_append, List.length_cons]
    omega

theorem g_room {R : Type} {n b : Nat} {k s : R} (h : n * b ≤ 140737488355328) (h' : n ≤ 140737488355328) : gate (roomFor n b) k s = k := gate_pos (room_of h h')

theorem g_dec {R : Type} {p : Prop} [Decidable p] {k s : R} (h : p) : gate (decide p) k s = k := gate_pos (decide_eq_true h)

theorem g_mk {R : Type} {l c : Int} {m b : Nat} {k s : R} (h1 : 0 ≤ l) (h2 : l ≤ c) (h : m * b ≤ 140737488355328) (h' : m ≤ 140737488355328) : gate (decide (0 ≤ l ∧ l ≤ c) && roomFor m b) k s = k :=
  gate_pos (by rw [decide_eq_true ⟨h1, h2⟩, room_of h h']; rfl)

theorem b_some {α R : Type} {a : α} {k : α → R} {s : R} : bindO (some a) k s = k a := rfl

theorem cut_end {α : Type} (xs : List α) (l : Nat) (h : l ≤ xs.length) : cut xs (l : Int) (xs.length : Int) = xs.drop l := by
  rw [cut_nat xs l xs.length h]
  exact List.take_of_length_le (by simp)

abbrev Ml := List Int × Int × List Int × List Int × Bool × List Int × List Int

abbrev ml0 : Ml := ([], (0 : Int), [], [], false, [], [])

theorem all_getD {α : Type} {d : α} {p : α → Bool} {s : List α} (h : ∀ j, j < s.length → p (s.getD j d) = true) : s.all p = true := by
  rw [List.all_eq_true]
  intro z hz
  obtain ⟨j, hj, rfl⟩ := List.getElem_of_mem hz
  have := h j hj
  rw [List.getD_eq_getElem?_getD, List.getElem?_eq_getElem hj] at this
  exact this

theorem any_getD {α : Type} {d : α} {p : α → Bool} {s : List α} {j : Nat} (hj : j < s.length) (h : p (s.getD j d) = false) : s.all p = false := by
  rw [List.all_eq_false]
  refine ⟨s[j], List.getElem_mem hj, ?_⟩
  rw [List.getD_eq_getElem?_getD, List.getElem?_eq_getElem hj] at h
  simp only [Option.getD_some] at h
  rw [h]; decide

def plainCh (x : Int) : Bool := decide (32 ≤ x ∧ x ≤ 126)

theorem plain1_eq (N : Nat) (c : Int) : mail_plain_1 N c = some (!plainCh c) := by
  unfold mail_plain_1 plainCh
  simp only [decide_eq_true_eq]
  by_cases h : c < 32
  · rw [if_pos h]
    simp only [bindO, Option.some.injEq]
    rw [decide_eq_false (show ¬ (32 ≤ c ∧ c ≤ 126) by omega)]
    rfl
  · rw [if_neg h]
    simp only [bindO, Option.some.injEq]
    by_cases h2 : c > 126
    · rw [decide_eq_true h2, decide_eq_false (show ¬ (32 ≤ c ∧ c ≤ 126) by omega)]; rfl
    · rw [decide_eq_false h2, decide_eq_true (show (32 ≤ c ∧ c ≤ 126) by omega)]; rfl

theorem plain_eq (N : Nat) (s : List Int) (hs : s.length ≤ 1048576) (hN : 1048577 < N) : mail_plain N s = some (s.all plainCh) := by
  unfold mail_plain
  rw [gate_pos (room_of (by omega) (by omega))]
  refine iter_rule (fun v => ∃ i : Nat, v = ((i : Int), ()) ∧ i ≤ s.length ∧ ∀ j : Nat, j < i → plainCh (s.getD j 0) = true) (fun v => s.length - v.1.toNat)
    (fun o => o = some (s.all plainCh)) ?_ N _ ⟨0, rfl, Nat.zero_le _, fun j hj => absurd hj (Nat.not_lt_zero _)⟩ (by simp only; omega)
  rintro v again ⟨i, rfl, hi, hall⟩ hag
  unfold mail_plain_i0_slices_ContainsFunc_i0_slices_IndexFunc.s0
  simp only [decide_eq_true_eq]
  by_cases hlt : i < s.length
  · rw [if_pos (by omega), gate_pos (inR_of (by omega) (by omega)), getI_nat, bindO_of (plain1_eq N _)]
    cases hc : plainCh (s.getD i 0) with
    | true =>
      simp only [Bool.not_true, Bool.false_eq_true, if_false]
      rw [w64 (by omega) (by omega)]
      refine hag _ ⟨i + 1, by simp, by omega, fun j hj => ?_⟩ (by simp only; omega)
      rcases Nat.lt_or_eq_of_le (Nat.le_of_lt_succ hj) with h | h
      · exact hall j h
      · subst h; exact hc
    | false =>
      simp only [Bool.not_false, if_true, Option.some.injEq]
      rw [any_getD hlt hc, decide_eq_true (show (i : Int) ≥ 0 by omega)]
      rfl
  · rw [if_neg (by omega), all_getD (d := 0) (fun j hj => hall j (by omega))]
    rfl

theorem getLast_drop {s : List Int} (h : s ≠ []) (x : Int) : s.drop (s.length - 1) = [x] ↔ s.getLast? = some x := by
  obtain ⟨a, b, rfl⟩ : ∃ a b, s = a ++ [b] := ⟨s.dropLast, s.getLast h, (List.dropLast_concat_getLast h).symm⟩
  simp

theorem suffix_eq (N : Nat) (s : List Int) (hs : s.length ≤ 1048576) : strings_HasSuffix N s [10] = some (decide (s.getLast? = some 10)) := by
  have key : stringslite_HasSuffix N s [10] = some (decide (s.getLast? = some 10)) := by
    unfold stringslite_HasSuffix
    simp only [decide_eq_true_eq, List.length_cons, List.length_nil]
    by_cases h : (s.length : Int) ≥ ((0 + 1 : Nat) : Int)
    · have hne : s ≠ [] := by intro e; subst e; simp at h
      rw [if_pos h]
      have e := cut_end s (s.length - 1) (by omega)
      have ew : IntKind.wrap .i64 ((s.length : Int) - ((0 + 1 : Nat) : Int)) = ((s.length - 1 : Nat) : Int) := by rw [w64 (by omega) (by omega)]; omega
      simp only [ew, e]
      rw [gate_pos (bounds_of (by omega) (by omega) (by omega))]
      simp only [bindO, Option.some.injEq]
      rw [Bool.eq_iff_iff]
      simp only [decide_eq_true_eq]
      exact getLast_drop hne 10
    · rw [if_neg h]
      have : s = [] := by
        cases s with
        | nil => rfl
        | cons x r => simp at h; omega
      subst this
      rfl
  unfold strings_HasSuffix
  rw [bindO_of key]

/-- a reference: none, or a name -/
def refB (s : List Int) : Bool := decide (s = []) || nameB s

/-- what a message's check reports -/
def oneI (m : Ml) : Int :=
  if (nameB m.1 && nameB m.2.2.1 && refB m.2.2.2.1) = false then 6
  else if m.2.1 < 0 ∨ 4294967295 < m.2.1 then 21
  else if (m.2.2.2.2.2.1.all plainCh && endsB m.2.2.2.2.2.2 && (m.2.2.2.2.2.2.filter fun x => decide (x ≠ 10)).all plainCh) = false then 3 else 0

/-- the lengths that a small argument gives -/
def Small (m : Ml) : Prop := m.1.length ≤ 1048576 ∧ m.2.2.1.length ≤ 1048576 ∧ m.2.2.2.1.length ≤ 1048576 ∧ m.2.2.2.2.2.1.length ≤ 1048576 ∧ m.2.2.2.2.2.2.length ≤ 1048576

theorem endsB_eq (t : List Int) : endsB t = (decide (t = []) || decide (t.getLast? = some 10)) := rfl

theorem one_eq (N : Nat) (m : Ml) (hm : Small m) (hN : 1048577 < N) : mail_one N m = some (oneI m) := by
  obtain ⟨h1, h2, h3, h4, h5⟩ := hm
  unfold mail_one
  have names : (bindO (fs_Named N m.1) (fun r6 => if (!r6) = true then some true else bindO (fs_Named N m.2.2.1) (fun r11 => if (!r11) = true then some true else if (!decide (m.2.2.2.1 = [])) = true then bindO (fs_Named N m.2.2.2.1) (fun r21 => some (!r21)) none else some false) none) none : Option Bool) = some (!(nameB m.1 && nameB m.2.2.1 && refB m.2.2.2.1)) := by
    rw [bindO_of (named_eq N _ h1 hN)]
    cases nameB m.1 with
    | false => rfl
    | true =>
      rw [if_neg (by decide), bindO_of (named_eq N _ h2 hN)]
      cases nameB m.2.2.1 with
      | false => rfl
      | true =>
        rw [if_neg (by decide)]
        unfold refB
        by_cases hr : m.2.2.2.1 = []
        · rw [decide_eq_true hr]; rfl
        · rw [decide_eq_false hr, if_pos (by decide), bindO_of (named_eq N _ h3 hN)]
          simp
  simp only [names]
  unfold oneI
  cases hnm : (nameB m.1 && nameB m.2.2.1 && refB m.2.2.2.1) with
  | false => rfl
  | true =>
    simp only [bindO, Bool.not_true, Bool.false_eq_true, if_false, decide_eq_true_eq, Bool.true_eq_false]
    have times : (if m.2.1 < 0 then some true else some (decide (m.2.1 > 4294967295)) : Option Bool) = some (decide (m.2.1 < 0 ∨ 4294967295 < m.2.1)) := by
      by_cases h : m.2.1 < 0
      · rw [if_pos h, decide_eq_true (Or.inl h)]
      · rw [if_neg h]
        congr 1
        rw [Bool.eq_iff_iff]
        simp only [decide_eq_true_eq]
        omega
    rw [times]
    simp only
    by_cases ht : m.2.1 < 0 ∨ 4294967295 < m.2.1
    · rw [decide_eq_true ht, if_pos rfl, if_pos ht]
    · rw [decide_eq_false ht, if_neg (by decide), if_neg ht, plain_eq N _ h4 hN]
      simp only
      have hd : dropF m.2.2.2.2.2.2 [10] [] = some (m.2.2.2.2.2.2.filter fun x => decide (x ≠ 10)) := by
        unfold dropF
        simp only
        rw [if_pos (by omega)]
      have hfl : (m.2.2.2.2.2.2.filter fun x => decide (x ≠ 10)).length ≤ 1048576 := Nat.le_trans (List.length_filter_le _ _) h5
      cases m.2.2.2.2.2.1.all plainCh with
      | false => rfl
      | true =>
        simp only [Bool.not_true, Bool.false_eq_true, if_false, Bool.true_and]
        rw [hd]
        simp only
        rw [plain_eq N _ hfl hN]
        simp only
        rw [endsB_eq]
        by_cases he : m.2.2.2.2.2.2 = []
        · rw [decide_eq_true he]
          simp only [Bool.not_true, Bool.false_eq_true, if_false, Bool.true_or, Bool.true_and]
          cases (m.2.2.2.2.2.2.filter fun x => decide (x ≠ 10)).all plainCh <;> rfl
        · rw [decide_eq_false he]
          simp only [Bool.not_false, if_true, Bool.false_or]
          rw [suffix_eq N _ h5]
          simp only
          cases decide (m.2.2.2.2.2.2.getLast? = some 10) with
          | false => rfl
          | true =>
            simp only [Bool.not_true, Bool.false_eq_true, if_false, Bool.true_and]
            cases (m.2.2.2.2.2.2.filter fun x => decide (x ≠ 10)).all plainCh <;> rfl

theorem ml_mem {l : List Ml} {i : Nat} (h : i < l.length) : l.getD i ml0 ∈ l := by
  rw [List.getD_eq_getElem?_getD, List.getElem?_eq_getElem h]
  exact List.getElem_mem h

/-- is the name there before the i-th -/
def seenM (l : List Ml) (i : Nat) (p : List Int) : Bool := (l.take i).any fun x => decide (x.2.2.1 = p)

def mailAt (l : List Ml) (i : Nat) : Int := if oneI (l.getD i ml0) = 0 then (if seenM l i (l.getD i ml0).2.2.1 = true then 7 else 0) else oneI (l.getD i ml0)

def ResM (l : List Ml) (r : Int) : Prop :=
  (60 < l.length ∧ r = 9) ∨ (l.length ≤ 60 ∧ ((∃ i, i < l.length ∧ (∀ j, j < i → mailAt l j = 0) ∧ mailAt l i ≠ 0 ∧ r = mailAt l i) ∨ ((∀ j, j < l.length → mailAt l j = 0) ∧ r = 0)))

theorem resM_unique {l : List Ml} {r q : Int} (h1 : ResM l r) (h2 : ResM l q) : r = q := by
  rcases h1 with ⟨a1, a2⟩ | ⟨a1, a2⟩
  · rcases h2 with ⟨b1, b2⟩ | ⟨b1, b2⟩
    · rw [a2, b2]
    · omega
  · rcases h2 with ⟨b1, b2⟩ | ⟨b1, b2⟩
    · omega
    · rcases a2 with ⟨i, i1, i2, i3, i4⟩ | ⟨i1, i2⟩
      · rcases b2 with ⟨k, k1, k2, k3, k4⟩ | ⟨k1, k2⟩
        · have : i = k := by
            rcases Nat.lt_trichotomy i k with h | h | h
            · exact absurd (k2 i h) i3
            · exact h
            · exact absurd (i2 k h) k3
          subst this
          rw [i4, k4]
        · exact absurd (k1 i i1) i3
      · rcases b2 with ⟨k, k1, k2, k3, k4⟩ | ⟨k1, k2⟩
        · exact absurd (i1 k k1) k3
        · rw [i2, k2]

theorem twiceM {R : Type} (N : Nat) (s : R) (k0 : (List Int × Int × List Int × List Int × Bool × List Int × List Int × Unit) → R) (kr : (List Int × Int × List Int × List Int × Bool × List Int × List Int × Int × Unit) → R) (l : List Ml)
    (a1 : List Int) (a2 : Int) (p a4 : List Int) (a5 : Bool) (a6 a7 : List Int) (hl : l.length ≤ 1048576) (Q : R → Prop)
    (h0 : (l.any fun x => decide (x.2.2.1 = p)) = false → Q (k0 (a1, a2, p, a4, a5, a6, a7, ()))) (h1 : ∀ i : Nat, (l.any fun x => decide (x.2.2.1 = p)) = true → Q (kr (a1, a2, p, a4, a5, a6, a7, (i : Int), ()))) (n : Nat) (hn : l.length < n) :
    Q (iter (mail_Check_i0_slices_ContainsFunc_i0_slices_IndexFunc.s0 N s k0 kr (l, (l.length : Int), ())) s n (a1, a2, p, a4, a5, a6, a7, (0 : Int), ())) := by
  refine iter_rule (fun v => ∃ i : Nat, v = (a1, a2, p, a4, a5, a6, a7, (i : Int), ()) ∧ i ≤ l.length ∧ ∀ j : Nat, j < i → (l.getD j ml0).2.2.1 ≠ p) (fun v => l.length - v.2.2.2.2.2.2.2.1.toNat) Q ?_ n _ ⟨0, rfl, Nat.zero_le _, fun j hj => absurd hj (Nat.not_lt_zero _)⟩ (by simp only; omega)
  rintro v again ⟨i, rfl, hi, hall⟩ hag
  unfold mail_Check_i0_slices_ContainsFunc_i0_slices_IndexFunc.s0
  simp only [decide_eq_true_eq]
  by_cases hlt : i < l.length
  · rw [if_pos (by omega), gate_pos (inR_of (by omega) (by omega)), getI_nat]
    by_cases h : (l.getD i ml0).2.2.1 = p
    · rw [if_pos h]
      refine h1 i ?_
      rw [List.any_eq_true]
      exact ⟨_, ml_mem hlt, by simpa using h⟩
    · rw [if_neg h, w64 (by omega) (by omega)]
      refine hag _ ⟨i + 1, by simp, by omega, fun j hj => ?_⟩ (by simp only; omega)
      rcases Nat.lt_or_eq_of_le (Nat.le_of_lt_succ hj) with h2 | h2
      · exact hall j h2
      · subst h2; exact h
  · rw [if_neg (by omega)]
    refine h0 ?_
    rw [List.any_eq_false]
    intro e he
    obtain ⟨j, hj, rfl⟩ := List.getElem_of_mem he
    have := hall j (by omega)
    rw [List.getD_eq_getElem?_getD, List.getElem?_eq_getElem hj] at this
    simpa using this

theorem mcut_take {α : Type} (l : List α) (i : Nat) : cut l (0 : Int) (i : Int) = l.take i := by
  have := cut_nat l 0 i (Nat.zero_le _)
  simpa using this

theorem mcheck_res (N : Nat) (l : List Ml) (hp : ∀ e ∈ l, Small e) (hN : 1048577 < N) : ∃ r, mail_Check N l = some r ∧ ResM l r := by
  unfold mail_Check
  simp only [decide_eq_true_eq]
  by_cases h60 : 60 < l.length
  · rw [if_pos (by omega)]
    exact ⟨9, rfl, Or.inl ⟨h60, rfl⟩⟩
  · rw [if_neg (by omega)]
    refine iter_rule (fun v => ∃ i : Nat, v = ((i : Int), ()) ∧ i ≤ l.length ∧ ∀ j, j < i → mailAt l j = 0) (fun v => l.length - v.1.toNat)
      (fun o => ∃ r, o = some r ∧ ResM l r) ?_ N _ ⟨0, rfl, Nat.zero_le _, fun j hj => absurd hj (Nat.not_lt_zero _)⟩ (by simp only; omega)
    rintro v again ⟨i, rfl, hi, hall⟩ hag
    unfold mail_Check.s0
    simp only [decide_eq_true_eq]
    by_cases hlt : i < l.length
    · have stop : ∀ r : Int, mailAt l i = r → r ≠ 0 → ∃ q, (some r : Option Int) = some q ∧ ResM l q := fun r h1 h2 => ⟨r, rfl, Or.inr ⟨by omega, Or.inl ⟨i, hlt, hall, by rw [h1]; exact h2, h1.symm⟩⟩⟩
      have go : mailAt l i = 0 → ∃ q, again ((i : Int) + 1, ()) = some q ∧ ResM l q := fun h => hag _ ⟨i + 1, by simp, by omega, fun j hj => by
        rcases Nat.lt_or_eq_of_le (Nat.le_of_lt_succ hj) with h2 | h2
        · exact hall j h2
        · subst h2; exact h⟩ (by simp only; omega)
      rw [if_pos (by omega), gate_pos (inR_of (by omega) (by omega)), getI_nat, bindO_of (one_eq N _ (hp _ (ml_mem hlt)) hN)]
      by_cases h1 : oneI (l.getD i ml0) = 0
      · rw [if_neg (by rw [decide_eq_true h1]; decide), gate_pos (bounds_of (by omega) (by omega) (by omega)), mcut_take]
        refine twiceM N none _ _ (l.take i) _ _ _ _ _ _ _ (by rw [List.length_take]; omega) (fun o => ∃ q, o = some q ∧ ResM l q) (fun hno => ?_) (fun k hyes => ?_) N (by rw [List.length_take]; omega)
        · rw [if_neg (by decide), w64 (by omega) (by omega)]
          exact go (by unfold mailAt; rw [if_pos h1, if_neg (by unfold seenM; rw [hno]; decide)])
        · simp only
          rw [if_pos (by omega)]
          have hyes : seenM l i (l.getD i ml0).2.2.1 = true := hyes
          exact stop 7 (by unfold mailAt; rw [if_pos h1, if_pos hyes]) (by decide)
      · rw [if_pos (by rw [decide_eq_false h1]; decide)]
        exact stop _ (by unfold mailAt; rw [if_neg h1]) h1
    · rw [if_neg (by omega)]
      exact ⟨0, rfl, Or.inr ⟨by omega, Or.inr ⟨fun j hj => hall j (by omega), rfl⟩⟩⟩

theorem oneI_text {m : Ml} (h : oneI m = 0) : nameB m.1 = true ∧ nameB m.2.2.1 = true ∧ refB m.2.2.2.1 = true ∧ 0 ≤ m.2.1 ∧ m.2.1 ≤ 4294967295 ∧ m.2.2.2.2.2.1.all plainCh = true ∧ endsB m.2.2.2.2.2.2 = true ∧ (m.2.2.2.2.2.2.filter fun x => decide (x ≠ 10)).all plainCh = true := by
  unfold oneI at h
  split at h
  · cases h
  · rename_i h1
    split at h
    · cases h
    · rename_i h2
      split at h
      · cases h
      · rename_i h3
        simp only [Bool.not_eq_false, Bool.and_eq_true] at h1 h3
        exact ⟨h1.1.1, h1.1.2, h1.2, by omega, by omega, h3.1.1, h3.1.2, h3.2⟩

theorem resM_zero {l : List Ml} (h : ResM l 0) : l.length ≤ 60 ∧ ∀ e ∈ l, oneI e = 0 := by
  rcases h with ⟨_, h⟩ | ⟨h5, h⟩
  · exact absurd h (by decide)
  · rcases h with ⟨i, _, _, h6, h7⟩ | ⟨h6, _⟩
    · exact absurd h7.symm h6
    · refine ⟨h5, fun e he => ?_⟩
      obtain ⟨j, hj, rfl⟩ := List.getElem_of_mem he
      have := h6 j hj
      unfold mailAt at this
      rw [List.getD_eq_getElem?_getD, List.getElem?_eq_getElem hj] at this
      simp only [Option.getD_some] at this
      split at this
      · assumption
      · assumption

def TextOK (t : List Int) (j : Nat) : Prop := endsB t = true ∧ (t.filter fun x => decide (x ≠ 10)).all plainCh = true ∧ t.length ≤ 11 * j

structure MsgOK (m : Ml) (i : Nat) : Prop where
  fr : nameB m.1 = true
  id : m.2.2.1 = [109, ((97 + i : Nat) : Int)]
  rf : refB m.2.2.2.1 = true
  tm : 0 ≤ m.2.1 ∧ m.2.1 < 1000
  ab : m.2.2.2.2.2.1.all plainCh = true ∧ m.2.2.2.2.2.1.length ≤ 5
  tx : TextOK m.2.2.2.2.2.2 3

structure DrawnM (l : List Ml) : Prop where
  few : l.length ≤ 6
  all : ∀ i, i < l.length → MsgOK (l.getD i ml0) i

theorem line_text (i : Int) (h1 : 0 ≤ i) (h2 : i < 6) : ∀ p, getI [] ([[108, 105, 110, 101], [46], [46, 46, 120], [], [109, 97, 105, 108, 32, 97, 32, 98, 32, 53], [97, 98, 111, 117, 116, 32, 121]] : List (List Int)) i = p → ((p ++ [10]).filter fun x => decide (x ≠ 10)).all plainCh = true ∧ (p ++ [10]).length ≤ 11 := by
  intro p hp
  obtain ⟨n, rfl⟩ := Int.eq_ofNat_of_zero_le h1
  have : n < 6 := by omega
  subst hp
  match n, this with
  | 0, _ => decide
  | 1, _ => decide
  | 2, _ => decide
  | 3, _ => decide
  | 4, _ => decide
  | 5, _ => decide

theorem TextOK.add {t p : List Int} {j : Nat} (h : TextOK t j) (hp : ((p ++ [10]).filter fun x => decide (x ≠ 10)).all plainCh = true ∧ (p ++ [10]).length ≤ 11) : TextOK (t ++ (p ++ [10])) (j + 1) := by
  obtain ⟨h1, h2, h3⟩ := h
  refine ⟨?_, ?_, ?_⟩
  · unfold endsB
    rw [← List.append_assoc, List.getLast?_concat]
    simp
  · rw [List.filter_append, List.all_append, h2, hp.1]; rfl
  · rw [List.length_append]; have := hp.2; omega

theorem linesDraw {R : Type} (N : Nat) (s : R) (k2 : (List Ml × List Int × List Int × Int × List Int × List Int × Bool × List Int × List Int × Unit) → R) (c1 c2 : Int) (k : Nat) (out : List Ml) (rest : List Int) (a1 : List Int) (a2 : Int) (a3 a4 : List Int) (a5 : Bool) (a6 : List Int) (hk : k ≤ 3)
    (Q : R → Prop) (hq : ∀ rest' t, TextOK t k → Q (k2 (out, rest', a1, a2, a3, a4, a5, a6, t, ()))) (n : Nat) (hn : 3 < n) :
    Q (iter (wrackkeep2_messages.s1 N s k2 (c1, c2, (k : Int), ())) s n (out, (0 : Int), rest, a1, a2, a3, a4, a5, a6, [], ())) := by
  refine iter_rule (fun v => ∃ (rest' t : List Int) (j : Nat), v = (out, (j : Int), rest', a1, a2, a3, a4, a5, a6, t, ()) ∧ j ≤ k ∧ TextOK t j) (fun v => k - v.2.1.toNat) Q ?_ n _ ⟨rest, [], 0, rfl, Nat.zero_le _, by unfold TextOK; exact ⟨rfl, rfl, by simp⟩⟩ (by simp only; omega)
  rintro v again ⟨rest', t, j, rfl, hj, ht⟩ hag
  unfold wrackkeep2_messages.s1
  simp only [decide_eq_true_eq]
  by_cases hlt : j < k
  · obtain ⟨q, l2, e1, b1, b2⟩ := next_eq N rest' 6 (by omega) (by omega)
    rw [if_pos (by omega), bindO_of e1]
    simp only
    rw [gate_pos (inR_of b1 (by simpa using b2)), gate_pos (inR_of b1 (by simpa using b2))]
    have hp := line_text q b1 b2 _ rfl
    generalize getI [] ([[108, 105, 110, 101], [46], [46, 46, 120], [], [109, 97, 105, 108, 32, 97, 32, 98, 32, 53], [97, 98, 111, 117, 116, 32, 121]] : List (List Int)) q = p at *
    have hl := ht.2.2
    have hpl := hp.2
    rw [List.length_append] at hpl
    simp only [List.length_cons, List.length_nil] at hpl
    rw [g_dec (by simp only [List.length_cons, List.length_nil]; omega), g_dec (by simp only [List.length_append, List.length_cons, List.length_nil]; omega), w64 (by omega) (by omega)]
    exact hag _ ⟨l2, _, j + 1, rfl, by omega, ht.add hp⟩ (by simp only; omega)
  · rw [if_neg (by omega)]
    have : j = k := by omega
    subst this
    exact hq rest' t ht

theorem from_ok (i : Int) (h1 : 0 ≤ i) (h2 : i < 2) : nameB (getI [] ([[97, 110, 110], [98, 111, 98]] : List (List Int)) i) = true := by
  obtain ⟨n, rfl⟩ := Int.eq_ofNat_of_zero_le h1
  have : n < 2 := by omega
  match n, this with
  | 0, _ => decide
  | 1, _ => decide

theorem about_ok (i : Int) (h1 : 0 ≤ i) (h2 : i < 3) : (getI [] ([[], [120], [114, 101, 58, 32, 120]] : List (List Int)) i).all plainCh = true ∧ (getI [] ([[], [120], [114, 101, 58, 32, 120]] : List (List Int)) i).length ≤ 5 := by
  obtain ⟨n, rfl⟩ := Int.eq_ofNat_of_zero_le h1
  have : n < 3 := by omega
  match n, this with
  | 0, _ => decide
  | 1, _ => decide
  | 2, _ => decide

theorem mid_ok (k : Nat) (h : k < 6) : nameB [109, ((97 + k : Nat) : Int)] = true := by
  match k, h with
  | 0, _ => decide
  | 1, _ => decide
  | 2, _ => decide
  | 3, _ => decide
  | 4, _ => decide
  | 5, _ => decide

theorem DrawnM.add {l : List Ml} (h : DrawnM l) (hl : l.length < 6) {m : Ml} (hm : MsgOK m l.length) : DrawnM (l ++ [m]) := by
  refine ⟨by rw [List.length_append]; simp; omega, fun i hi => ?_⟩
  simp only [List.length_append, List.length_cons, List.length_nil] at hi
  by_cases h2 : i < l.length
  · rw [List.getD_eq_getElem?_getD, List.getElem?_append_left h2, ← List.getD_eq_getElem?_getD]
    exact h.all i h2
  · have : i = l.length := by omega
    subst this
    rw [List.getD_eq_getElem?_getD, List.getElem?_append_right (Nat.le_refl _), Nat.sub_self]
    exact hm

theorem messages_ok (N : Nat) (l : List Int) (hN : 1048577 < N) : ∃ ms, wrackkeep2_messages N l = some ms ∧ DrawnM ms := by
  unfold wrackkeep2_messages
  obtain ⟨r1, l1, e1, a1, a2⟩ := next_eq N l 7 (by omega) (by omega)
  rw [bindO_of e1]
  simp only
  obtain ⟨n, rfl⟩ := Int.eq_ofNat_of_zero_le a1
  refine iter_rule (fun v => ∃ (rest : List Int) (out : List Ml), v = (out, (out.length : Int), rest, ()) ∧ out.length ≤ n ∧ DrawnM out) (fun v => n - v.1.length)
    (fun r => ∃ its, r = some its ∧ DrawnM its) ?_ N _ ⟨l1, [], rfl, by simp, by simp, fun i hi => absurd hi (by simp)⟩ (by simp; omega)
  rintro v again ⟨rest, out, rfl, ho, hd⟩ hag
  unfold wrackkeep2_messages.s0
  simp only [decide_eq_true_eq]
  by_cases hlt : out.length < n
  · rw [if_pos (by omega), w64 (x := (97 : Int) + (out.length : Int)) (by omega) (by omega)]
    have e2 : IntKind.wrap .i32 (97 + (out.length : Int)) = ((97 + out.length : Nat) : Int) := by
      simp [IntKind.wrap, IntKind.bits, IntKind.signed]
      omega
    rw [e2]
    obtain ⟨q1, l2, f1, b1, b2⟩ := next_eq N rest 2 (by omega) (by omega)
    obtain ⟨q2, l3, f2, b3, b4⟩ := next_eq N l2 1000 (by omega) (by omega)
    obtain ⟨q3, l4, f3, b5, b6⟩ := next_eq N l3 3 (by omega) (by omega)
    obtain ⟨q4, l5, f4, b7, b8⟩ := next_eq N l4 3 (by omega) (by omega)
    rw [bindO_of f1]
    simp only
    rw [gate_pos (inR_of b1 (by simpa using b2)), gate_pos (inR_of b1 (by simpa using b2)), bindO_of f2]
    simp only
    rw [g_dec (by omega), g_dec (by simp), bindO_of f3]
    simp only
    rw [bindO_of f4]
    simp only
    rw [gate_pos (inR_of b7 (by simpa using b8)), gate_pos (inR_of b7 (by simpa using b8))]
    have hfr := from_ok q1 b1 b2
    have hab := about_ok q4 b7 b8
    generalize getI [] ([[97, 110, 110], [98, 111, 98]] : List (List Int)) q1 = fr at *
    generalize getI [] ([[], [120], [114, 101, 58, 32, 120]] : List (List Int)) q4 = ab at *
    have hid : [(109 : Int)] ++ [((97 + out.length : Nat) : Int)] = [109, ((97 + out.length : Nat) : Int)] := rfl
    -- what comes behind the reference
    have fin : ∀ (rf : List Int) (l6 : List Int), refB rf = true → ∃ its, (bindO (wrackmake_Stream_Next N (l6, ()) 4) (fun r52 => iter (wrackkeep2_messages.s1 N (none : Option (List Ml)) (fun x352 =>
          gate (roomFor (x352.1.length + [((x352.2.2.1, (x352.2.2.2.1, (x352.2.2.2.2.1, (x352.2.2.2.2.2.1, (x352.2.2.2.2.2.2.1, (x352.2.2.2.2.2.2.2.1, x352.2.2.2.2.2.2.2.2.1)))))) : Ml)].length) 96)
            (again (x352.1 ++ [((x352.2.2.1, (x352.2.2.2.1, (x352.2.2.2.2.1, (x352.2.2.2.2.2.1, (x352.2.2.2.2.2.2.1, (x352.2.2.2.2.2.2.2.1, x352.2.2.2.2.2.2.2.2.1)))))) : Ml)], IntKind.wrap .i64 ((out.length : Int) + 1), x352.2.1, ())) none) ((n : Int), (out.length : Int), r52.1, ())) none N (out, (0 : Int), r52.2.1, fr, q2, [109, ((97 + out.length : Nat) : Int)], rf, decide (q3 = 0), ab, [], ())) none) = some its ∧ DrawnM its := by
      intro rf l6 hrf
      obtain ⟨q5, l7, f5, d1, d2⟩ := next_eq N l6 4 (by omega) (by omega)
      rw [bindO_of f5]
      simp only
      obtain ⟨k, rfl⟩ := Int.eq_ofNat_of_zero_le d1
      refine linesDraw N none _ _ _ k out l7 fr q2 _ rf _ ab (by omega) (fun r => ∃ its, r = some its ∧ DrawnM its) (fun rest' t ht => ?_) N (by omega)
      simp only
      rw [gate_pos (room_of (by simp; omega) (by simp; omega)), w64 (by omega) (by omega)]
      refine hag _ ⟨rest', out ++ [(fr, q2, [109, ((97 + out.length : Nat) : Int)], rf, decide (q3 = 0), ab, t)], by simp, by simp; omega, hd.add (by omega) ⟨hfr, rfl, hrf, ⟨b3, b4⟩, hab, ?_⟩⟩ (by simp; omega)
      obtain ⟨t1, t2, t3⟩ := ht
      exact ⟨t1, t2, Nat.le_trans t3 (by omega)⟩
    by_cases hpos : (out.length : Int) > 0
    · rw [if_pos hpos]
      obtain ⟨q6, l6, f6, d1, d2⟩ := next_eq N l5 2 (by omega) (by omega)
      rw [bindO_of f6]
      simp only
      by_cases h0 : q6 = 0
      · rw [if_pos h0]
        obtain ⟨q7, l7, f7, d3, d4⟩ := next_eq N l6 (out.length : Int) (by omega) (by omega)
        rw [bindO_of f7]
        simp only
        obtain ⟨k, rfl⟩ := Int.eq_ofNat_of_zero_le d3
        rw [w64 (x := (97 : Int) + (k : Int)) (by omega) (by omega)]
        have e3 : IntKind.wrap .i32 (97 + (k : Int)) = ((97 + k : Nat) : Int) := by
          simp [IntKind.wrap, IntKind.bits, IntKind.signed]
          omega
        rw [e3, g_dec (by omega), g_dec (by simp), b_some]
        simp only
        exact fin [109, ((97 + k : Nat) : Int)] l7 (by unfold refB; rw [mid_ok k (by omega), Bool.or_true])
      · rw [if_neg h0, b_some]
        simp only
        exact fin [] l6 rfl
    · rw [if_neg hpos]
      exact fin [] l5 rfl
  · rw [if_neg (by omega)]
    exact ⟨out, rfl, hd⟩

theorem MsgOK.one {m : Ml} {i : Nat} (h : MsgOK m i) (hi : i < 6) : oneI m = 0 := by
  obtain ⟨h1, h2, h3, h4, h5, h6⟩ := h
  unfold oneI
  rw [h1, h2, mid_ok i hi, h3, if_neg (by decide), if_neg (by omega), h5.1, h6.1, h6.2.1, if_neg (by decide)]

theorem nameB_len12 {s : List Int} (h : nameB s = true) : s.length ≤ 12 := by
  cases s with
  | nil => cases h
  | cons x r =>
    simp only [nameB, Bool.and_eq_true, decide_eq_true_eq] at h
    exact h.1

theorem MsgOK.small {m : Ml} {i : Nat} (h : MsgOK m i) : Small m := by
  obtain ⟨h1, h2, h3, h4, h5, h6⟩ := h
  have a := nameB_len12 h1
  have b : m.2.2.2.1.length ≤ 12 := by
    unfold refB at h3
    simp only [Bool.or_eq_true, decide_eq_true_eq] at h3
    rcases h3 with h | h
    · rw [h]; simp
    · exact nameB_len12 h
  have c : m.2.2.1.length = 2 := by rw [h2]; rfl
  have d := h6.2.2
  have e := h5.2
  exact ⟨by omega, by omega, by omega, by omega, by omega⟩

theorem DrawnM.mem {l : List Ml} (h : DrawnM l) {e : Ml} (he : e ∈ l) : ∃ i, i < 6 ∧ MsgOK e i := by
  obtain ⟨i, hi, rfl⟩ := List.getElem_of_mem he
  have := h.all i hi
  rw [List.getD_eq_getElem?_getD, List.getElem?_eq_getElem hi] at this
  exact ⟨i, by have := h.few; omega, this⟩

theorem DrawnM.small {l : List Ml} (h : DrawnM l) : ∀ e ∈ l, Small e := fun e he => by
  obtain ⟨i, _, hm⟩ := h.mem he
  exact hm.small

theorem DrawnM.res {l : List Ml} (h : DrawnM l) : ResM l 0 := by
  have hf := h.few
  refine Or.inr ⟨by omega, Or.inr ⟨fun j hj => ?_, rfl⟩⟩
  have hm := h.all j hj
  unfold mailAt
  rw [if_pos (hm.one (by omega)), if_neg]
  unfold seenM
  rw [Bool.not_eq_true, List.any_eq_false]
  intro x hx
  simp only [decide_eq_true_eq]
  intro e
  obtain ⟨k, hk, rfl⟩ := List.getElem_of_mem hx
  rw [List.length_take] at hk
  have hk2 := h.all k (by omega)
  rw [List.getElem_take] at e
  have e3 : (l.getD k ml0).2.2.1 = (l.getD j ml0).2.2.1 := by
    rw [← e]
    simp [List.getD_eq_getElem?_getD, show k < l.length by omega]
  rw [hk2.id, hm.id] at e3
  simp only [List.cons.injEq, true_and, and_true] at e3
  omega

theorem DrawnM.check {N : Nat} {l : List Ml} (h : DrawnM l) (hN : 1048577 < N) : mail_Check N l = some 0 := by
  obtain ⟨r, h1, h2⟩ := mcheck_res N l h.small hN
  have := resM_unique h2 h.res
  subst this
  exact h1

/-- the k-th is the first whose name the i-th returns to -/
def edgeM (l : List Ml) (i k : Nat) : Prop := k < l.length ∧ (l.getD k ml0).2.2.1 = (l.getD i ml0).2.2.2.1 ∧ ∀ j, j < k → (l.getD j ml0).2.2.1 ≠ (l.getD i ml0).2.2.2.1

theorem edgeM_unique {l : List Ml} {i k q : Nat} (h1 : edgeM l i k) (h2 : edgeM l i q) : k = q := by
  rcases Nat.lt_trichotomy k q with h | h | h
  · exact absurd h1.2.1 (h2.2.2 k h)
  · exact h
  · exact absurd h2.2.1 (h1.2.2 q h)

/-- a label is the same along every return -/
def Compat {α : Type} (l : List Ml) (f : Nat → α) : Prop := ∀ i k, i < l.length → edgeM l i k → f i = f k

structure GInv (l : List Ml) (i : Nat) (g : List Int) : Prop where
  len : g.length = l.length
  low : ∀ a, a < l.length → 0 ≤ g.getD a 0 ∧ g.getD a 0 ≤ a
  idem : ∀ a, a < l.length → g.getD (g.getD a 0).toNat 0 = g.getD a 0
  edge : ∀ j k, j < i → edgeM l j k → g.getD j 0 = g.getD k 0
  univ : ∀ f : Nat → Int, Compat l f → ∀ a b, a < l.length → b < l.length → g.getD a 0 = g.getD b 0 → f a = f b

theorem getD_map_int (f : Int → Int) (g : List Int) {a : Nat} (h : a < g.length) : (g.map f).getD a 0 = f (g.getD a 0) := by
  rw [List.getD_eq_getElem?_getD, List.getElem?_map, List.getD_eq_getElem?_getD, List.getElem?_eq_getElem h]
  rfl

def joinG (a b : Int) (x : Int) : Int := if x = b then a else x

theorem GInv.skip {l : List Ml} {i : Nat} {g : List Int} (h : GInv l i g) (hno : ∀ k, ¬ edgeM l i k) : GInv l (i + 1) g := by
  refine ⟨h.len, h.low, h.idem, fun j k hj he => ?_, h.univ⟩
  rcases Nat.lt_or_eq_of_le (Nat.le_of_lt_succ hj) with h2 | h2
  · exact h.edge j k h2 he
  · subst h2; exact absurd he (hno k)

theorem GInv.step {l : List Ml} {i k : Nat} {g : List Int} (h : GInv l i g) (hi : i < l.length) (he : edgeM l i k) : GInv l (i + 1) (g.map (joinG (minI (g.getD i 0) (g.getD k 0)) (maxI (g.getD i 0) (g.getD k 0)))) := by
  have hk := he.1
  have hab : (minI (g.getD i 0) (g.getD k 0) = g.getD i 0 ∧ maxI (g.getD i 0) (g.getD k 0) = g.getD k 0) ∨ (minI (g.getD i 0) (g.getD k 0) = g.getD k 0 ∧ maxI (g.getD i 0) (g.getD k 0) = g.getD i 0) := by
    unfold minI maxI
    split <;> split <;> omega
  have hle : minI (g.getD i 0) (g.getD k 0) ≤ maxI (g.getD i 0) (g.getD k 0) := by
    unfold minI maxI
    split <;> split <;> omega
  obtain ⟨a, ha⟩ : ∃ a, minI (g.getD i 0) (g.getD k 0) = a := ⟨_, rfl⟩
  obtain ⟨b, hb⟩ : ∃ b, maxI (g.getD i 0) (g.getD k 0) = b := ⟨_, rfl⟩
  rw [ha, hb] at hab hle
  rw [ha, hb]
  have hget : ∀ c, c < l.length → (g.map (joinG a b)).getD c 0 = joinG a b (g.getD c 0) := fun c hc => getD_map_int _ _ (by rw [h.len]; exact hc)
  -- a is a label of itself
  obtain ⟨q, hq, hqa⟩ : ∃ q, q < l.length ∧ g.getD q 0 = a := by
    rcases hab with ⟨e, _⟩ | ⟨e, _⟩
    · exact ⟨i, hi, e.symm⟩
    · exact ⟨k, hk, e.symm⟩
  have hal := h.low q hq
  have hai := h.idem q hq
  rw [hqa] at hal hai
  have hn : a.toNat < l.length := by omega
  refine ⟨by simp [h.len], fun c hc => ?_, fun c hc => ?_, fun j k' hj hj' => ?_, fun f hf c d hc hd hcd => ?_⟩
  · rw [hget c hc]
    have := h.low c hc
    unfold joinG
    split <;> omega
  · rw [hget c hc]
    have hlc := h.low c hc
    by_cases h2 : g.getD c 0 = b
    · rw [show joinG a b (g.getD c 0) = a by unfold joinG; rw [if_pos h2], hget _ hn, hai]
      unfold joinG
      split <;> rfl
    · rw [show joinG a b (g.getD c 0) = g.getD c 0 by unfold joinG; rw [if_neg h2], hget _ (by omega), h.idem c hc]
      unfold joinG
      rw [if_neg h2]
  · have hk' := hj'.1
    rw [hget _ (by omega), hget _ hk']
    rcases Nat.lt_or_eq_of_le (Nat.le_of_lt_succ hj) with h2 | h2
    · rw [h.edge j k' h2 hj']
    · subst h2
      have := edgeM_unique he hj'
      subst this
      unfold joinG
      rcases hab with ⟨e1, e2⟩ | ⟨e1, e2⟩
      · rw [← e2, if_pos rfl, ← e1]; split <;> rfl
      · rw [← e2, if_pos rfl, ← e1]; split <;> rfl
  · rw [hget c hc, hget d hd] at hcd
    have hik := hf i k hi he
    -- what bears the label a, and what bears b
    have fa : ∀ c, c < l.length → g.getD c 0 = a → f c = f i := by
      intro c hc e
      rcases hab with ⟨e1, e2⟩ | ⟨e1, e2⟩
      · exact h.univ f hf c i hc hi (by rw [e, e1])
      · rw [hik]; exact h.univ f hf c k hc hk (by rw [e, e1])
    have fb : ∀ c, c < l.length → g.getD c 0 = b → f c = f i := by
      intro c hc e
      rcases hab with ⟨e1, e2⟩ | ⟨e1, e2⟩
      · rw [hik]; exact h.univ f hf c k hc hk (by rw [e, e2])
      · exact h.univ f hf c i hc hi (by rw [e, e2])
    unfold joinG at hcd
    by_cases h1 : g.getD c 0 = b
    · by_cases h2 : g.getD d 0 = b
      · rw [fb c hc h1, fb d hd h2]
      · rw [if_pos h1, if_neg h2] at hcd
        rw [fb c hc h1, fa d hd hcd.symm]
    · by_cases h2 : g.getD d 0 = b
      · rw [if_neg h1, if_pos h2] at hcd
        rw [fa c hc hcd, fb d hd h2]
      · rw [if_neg h1, if_neg h2] at hcd
        exact h.univ f hf c d hc hd hcd

theorem initLoop {R : Type} (N : Nat) (s : R) (K : (List Int × Unit) → R) (l : List Ml) (g0 : List Int) (hl : g0.length ≤ 1048576) (n : Nat) (hn : g0.length < n) :
    iter (mail_Threads.s0 N s K (l, (g0.length : Int), ())) s n (g0, (0 : Int), ()) = K ((List.range g0.length).map Int.ofNat, ()) := by
  refine iter_rule (fun v => ∃ (g : List Int) (i : Nat), v = (g, (i : Int), ()) ∧ i ≤ g0.length ∧ g.length = g0.length ∧ ∀ j, j < i → g.getD j 0 = j) (fun v => g0.length - v.2.1.toNat) (fun o => o = K ((List.range g0.length).map Int.ofNat, ()))
    ?_ n _ ⟨g0, 0, rfl, Nat.zero_le _, rfl, fun j hj => absurd hj (Nat.not_lt_zero _)⟩ (by simp only; omega)
  rintro v again ⟨g, i, rfl, hi, hg, hall⟩ hag
  unfold mail_Threads.s0
  simp only [decide_eq_true_eq]
  by_cases hlt : i < g0.length
  · rw [if_pos (by omega), gate_pos (inR_of (by omega) (by omega)), gate_pos (inR_of (by omega) (by omega)), w64 (by omega) (by omega)]
    refine hag _ ⟨_, i + 1, rfl, by omega, by simp [hg], fun j hj => ?_⟩ (by simp only; omega)
    simp only [Int.toNat_natCast]
    rw [List.getD_eq_getElem?_getD, List.getElem?_set]
    by_cases e : i = j
    · rw [if_pos e, if_pos (by omega), e]; rfl
    · rw [if_neg e, ← List.getD_eq_getElem?_getD]
      exact hall j (by omega)
  · rw [if_neg (by omega)]
    have : g = (List.range g0.length).map Int.ofNat := by
      apply List.ext_getElem
      · simp [hg]
      · intro j h1 h2
        have := hall j (by omega)
        rw [List.getD_eq_getElem?_getD, List.getElem?_eq_getElem h1] at this
        simp only [Option.getD_some] at this
        simp [this]
    rw [this]

theorem relabel {R : Type} (N : Nat) (s : R) (K : (List Int × Unit) → R) (c1 : List Ml) (a b : Int) (c4 : List Ml) (c5 c6 : Int) (g0 : List Int) (hl : g0.length ≤ 1048576) (n : Nat) (hn : g0.length < n) :
    iter (mail_Threads.s2 N s K (c1, a, b, c4, c5, c6, (g0.length : Int), ())) s n (g0, (0 : Int), ()) = K (g0.map (joinG a b), ()) := by
  refine iter_rule (fun v => ∃ i : Nat, v = ((g0.take i).map (joinG a b) ++ g0.drop i, (i : Int), ()) ∧ i ≤ g0.length) (fun v => g0.length - v.2.1.toNat) (fun o => o = K (g0.map (joinG a b), ()))
    ?_ n _ ⟨0, by simp, Nat.zero_le _⟩ (by simp only; omega)
  rintro v again ⟨i, rfl, hi⟩ hag
  unfold mail_Threads.s2
  simp only [decide_eq_true_eq]
  by_cases hlt : i < g0.length
  · have hlen : ((g0.take i).map (joinG a b) ++ g0.drop i).length = g0.length := by simp; omega
    have hti : ((g0.take i).map (joinG a b)).length = i := by simp; omega
    have hget : ((g0.take i).map (joinG a b) ++ g0.drop i).getD i 0 = g0.getD i 0 := by
      rw [List.getD_eq_getElem?_getD, List.getElem?_append_right (by omega), hti, Nat.sub_self, List.getElem?_drop, Nat.add_zero, ← List.getD_eq_getElem?_getD]
    have hnext : ∀ x, ((g0.take i).map (joinG a b) ++ g0.drop i).set i x = (g0.take i).map (joinG a b) ++ x :: g0.drop (i + 1) := by
      intro x
      rw [List.set_append_right _ _ (by omega), hti, Nat.sub_self, List.drop_eq_getElem_cons hlt]
      rfl
    have hsucc : (g0.take (i + 1)).map (joinG a b) ++ g0.drop (i + 1) = (g0.take i).map (joinG a b) ++ joinG a b (g0.getD i 0) :: g0.drop (i + 1) := by
      rw [List.take_add_one, List.getElem?_eq_getElem hlt, List.getD_eq_getElem?_getD, List.getElem?_eq_getElem hlt, List.map_append, List.append_assoc]
      rfl
    rw [if_pos (by omega), gate_pos (inR_of (by omega) (by omega)), gate_pos (inR_of (by omega) (by omega)), getI_nat, hget, w64 (by omega) (by omega)]
    by_cases h : g0.getD i 0 = b
    · rw [if_pos h, gate_pos (inR_of (by omega) (by omega)), gate_pos (inR_of (by omega) (by omega))]
      simp only [Int.toNat_natCast]
      rw [hnext]
      refine hag _ ⟨i + 1, ?_, by omega⟩ (by simp only; omega)
      rw [hsucc]
      unfold joinG
      rw [if_pos h]
      rfl
    · rw [if_neg h]
      refine hag _ ⟨i + 1, ?_, by omega⟩ (by simp only; omega)
      rw [hsucc]
      unfold joinG
      rw [if_neg h]
      have e : (g0.take i).map (joinG a b) ++ g0.drop i = (g0.take i).map (joinG a b) ++ g0.getD i 0 :: g0.drop (i + 1) := by
        rw [List.drop_eq_getElem_cons hlt, List.getD_eq_getElem?_getD, List.getElem?_eq_getElem hlt]
        rfl
      unfold joinG at e
      rw [e]
      rfl
  · rw [if_neg (by omega)]
    have : i = g0.length := by omega
    subst this
    simp

theorem refLoop {R : Type} (N : Nat) (s : R) (k0 : (List Int × List Int × Int × List Int × List Int × Bool × List Int × List Int × Unit) → R) (kr : (List Int × List Int × Int × List Int × List Int × Bool × List Int × List Int × Int × Unit) → R) (l : List Ml) (g : List Int)
    (i : Nat) (hl : l.length ≤ 1048576) (Q : R → Prop)
    (h0 : (∀ k, ¬ edgeM l i k) → Q (k0 (g, (l.getD i ml0).1, (l.getD i ml0).2.1, (l.getD i ml0).2.2.1, (l.getD i ml0).2.2.2.1, (l.getD i ml0).2.2.2.2.1, (l.getD i ml0).2.2.2.2.2.1, (l.getD i ml0).2.2.2.2.2.2, ())))
    (h1 : ∀ k : Nat, edgeM l i k → Q (kr (g, (l.getD i ml0).1, (l.getD i ml0).2.1, (l.getD i ml0).2.2.1, (l.getD i ml0).2.2.2.1, (l.getD i ml0).2.2.2.2.1, (l.getD i ml0).2.2.2.2.2.1, (l.getD i ml0).2.2.2.2.2.2, (k : Int), ()))) (n : Nat) (hn : l.length < n) :
    Q (iter (mail_Threads_i0_slices_IndexFunc.s0 N s k0 kr (l, (l.length : Int), ())) s n (g, (l.getD i ml0).1, (l.getD i ml0).2.1, (l.getD i ml0).2.2.1, (l.getD i ml0).2.2.2.1, (l.getD i ml0).2.2.2.2.1, (l.getD i ml0).2.2.2.2.2.1, (l.getD i ml0).2.2.2.2.2.2, (0 : Int), ())) := by
  have key : ∀ k, edgeM l i k ↔ (k < l.length ∧ (l.getD k ml0).2.2.1 = (l.getD i ml0).2.2.2.1 ∧ ∀ j, j < k → (l.getD j ml0).2.2.1 ≠ (l.getD i ml0).2.2.2.1) := fun k => Iff.rfl
  generalize l.getD i ml0 = m at *
  obtain ⟨a1, a2, a3, p, a5, a6, a7⟩ := m
  simp only at key h0 h1 ⊢
  refine iter_rule (fun v => ∃ i : Nat, v = (g, a1, a2, a3, p, a5, a6, a7, (i : Int), ()) ∧ i ≤ l.length ∧ ∀ j : Nat, j < i → (l.getD j ml0).2.2.1 ≠ p) (fun v => l.length - v.2.2.2.2.2.2.2.2.1.toNat) Q ?_ n _ ⟨0, rfl, Nat.zero_le _, fun j hj => absurd hj (Nat.not_lt_zero _)⟩ (by simp only; omega)
  rintro v again ⟨i, rfl, hi, hall⟩ hag
  unfold mail_Threads_i0_slices_IndexFunc.s0
  simp only [decide_eq_true_eq]
  by_cases hlt : i < l.length
  · rw [if_pos (by omega), gate_pos (inR_of (by omega) (by omega)), getI_nat]
    by_cases h : (l.getD i ml0).2.2.1 = p
    · rw [if_pos h]
      exact h1 i ((key i).2 ⟨hlt, h, hall⟩)
    · rw [if_neg h, w64 (by omega) (by omega)]
      refine hag _ ⟨i + 1, by simp, by omega, fun j hj => ?_⟩ (by simp only; omega)
      rcases Nat.lt_or_eq_of_le (Nat.le_of_lt_succ hj) with h2 | h2
      · exact hall j h2
      · subst h2; exact h
  · rw [if_neg (by omega)]
    exact h0 fun k hk => by
      have := (key k).1 hk
      exact hall k (by omega) this.2.1

theorem groupLoop {R : Type} (N : Nat) (s : R) (K : (List Int × Unit) → R) (l : List Ml) (hl : l.length ≤ 60) (hN : 1048577 < N) (Q : R → Prop) (g0 : List Int) (h0 : GInv l 0 g0) (h : ∀ g, GInv l l.length g → Q (K (g, ()))) (n : Nat) (hn : l.length < n) :
    Q (iter (mail_Threads.s1 N s K (l, l, (l.length : Int), ())) s n (g0, (0 : Int), ())) := by
  refine iter_rule (fun v => ∃ (g : List Int) (i : Nat), v = (g, (i : Int), ()) ∧ i ≤ l.length ∧ GInv l i g) (fun v => l.length - v.2.1.toNat) Q ?_ n _ ⟨g0, 0, rfl, Nat.zero_le _, h0⟩ (by simp only; omega)
  rintro v again ⟨g, i, rfl, hi, hg⟩ hag
  unfold mail_Threads.s1
  simp only [decide_eq_true_eq]
  by_cases hlt : i < l.length
  · rw [if_pos (by omega), gate_pos (inR_of (by omega) (by omega)), getI_nat]
    refine refLoop N s _ _ l g i (by omega) Q (fun hno => ?_) (fun k hk => ?_) N (by omega)
    · simp only
      rw [if_pos (by decide), w64 (by omega) (by omega)]
      exact hag _ ⟨g, i + 1, rfl, by omega, hg.skip hno⟩ (by simp only; omega)
    · have hkl := hk.1
      have hgl := hg.len
      simp only
      rw [if_neg (by omega)]
      rw [gate_pos (inR_of (by omega) (by omega)), gate_pos (inR_of (by omega) (by omega)), gate_pos (inR_of (by omega) (by omega)), gate_pos (inR_of (by omega) (by omega)), gate_pos (inR_of (by omega) (by omega)), gate_pos (inR_of (by omega) (by omega)), gate_pos (inR_of (by omega) (by omega)), gate_pos (inR_of (by omega) (by omega))]
      rw [relabel N s _ _ _ _ _ _ _ g (by omega) N (by omega)]
      simp only [getI_nat]
      rw [w64 (by omega) (by omega)]
      exact hag _ ⟨_, i + 1, rfl, by omega, hg.step hlt hk⟩ (by simp only; omega)
  · rw [if_neg (by omega)]
    have : i = l.length := by omega
    subst this
    exact h g hg

/-- those that bear a label -/
def memG (g : List Int) (n i : Nat) : List Int := ((List.range n).filter fun j => decide (g.getD j 0 = i)).map Int.ofNat

def outG (g : List Int) (n : Nat) : List (List Int) := ((List.range n).map (memG g n)).filter fun x => decide (x ≠ [])

theorem memLoop {R : Type} (N : Nat) (s : R) (K : (List (List Int) × List Int × Unit) → R) (g : List Int) (i : Nat) (c3 c4 : Int) (out : List (List Int)) (hg : g.length ≤ 60) (n : Nat) (hn : g.length < n) :
    iter (mail_Threads.s4 N s K (g, (i : Int), c3, c4, g, (g.length : Int), ())) s n (out, [], (0 : Int), ()) = K (out, memG g g.length i, ()) := by
  refine iter_rule (fun v => ∃ j : Nat, v = (out, memG g j i, (j : Int), ()) ∧ j ≤ g.length) (fun v => g.length - v.2.2.1.toNat) (fun o => o = K (out, memG g g.length i, ())) ?_ n _ ⟨0, rfl, Nat.zero_le _⟩ (by simp only; omega)
  rintro v again ⟨j, rfl, hj⟩ hag
  unfold mail_Threads.s4
  simp only [decide_eq_true_eq]
  have hml : (memG g j i).length ≤ j := by
    unfold memG
    rw [List.length_map]
    exact Nat.le_trans (List.length_filter_le _ _) (by simp)
  by_cases hlt : j < g.length
  · rw [if_pos (by omega), gate_pos (inR_of (by omega) (by omega)), getI_nat, w64 (by omega) (by omega)]
    have hs : memG g (j + 1) i = memG g j i ++ (if g.getD j 0 = i then [(j : Int)] else []) := by
      unfold memG
      rw [List.range_succ, List.filter_append, List.map_append]
      congr 1
      by_cases h : g.getD j 0 = i
      · rw [if_pos h, List.filter_cons, if_pos (by simpa using h)]; rfl
      · rw [if_neg h, List.filter_cons, if_neg (by simpa using h)]; rfl
    by_cases h : g.getD j 0 = i
    · rw [if_pos h, g_room (by simp only [List.length_cons, List.length_nil]; omega) (by simp only [List.length_cons, List.length_nil]; omega)]
      rw [if_pos h] at hs
      exact hag _ ⟨j + 1, by rw [hs]; rfl, by omega⟩ (by simp only; omega)
    · rw [if_neg h]
      rw [if_neg h, List.append_nil] at hs
      exact hag _ ⟨j + 1, by rw [hs]; rfl, by omega⟩ (by simp only; omega)
  · rw [if_neg (by omega)]
    have : j = g.length := by omega
    subst this
    rfl

theorem outLoop {R : Type} (N : Nat) (s : R) (K : (List (List Int) × Unit) → R) (g : List Int) (hg : g.length ≤ 60) (hN : 1048577 < N) (n : Nat) (hn : g.length < n) :
    iter (mail_Threads.s3 N s K ((g.length : Int), ())) s n (g, [], (0 : Int), ()) = K (outG g g.length, ()) := by
  refine iter_rule (fun v => ∃ i : Nat, v = (g, ((List.range i).map (memG g g.length)).filter (fun x => decide (x ≠ [])), (i : Int), ()) ∧ i ≤ g.length) (fun v => g.length - v.2.2.1.toNat) (fun o => o = K (outG g g.length, ())) ?_ n _ ⟨0, rfl, Nat.zero_le _⟩ (by simp only; omega)
  rintro v again ⟨i, rfl, hi⟩ hag
  unfold mail_Threads.s3
  simp only [decide_eq_true_eq]
  by_cases hlt : i < g.length
  · rw [if_pos (by omega), memLoop N s _ g i _ _ _ hg N (by omega)]
    have hol : (((List.range i).map (memG g g.length)).filter (fun x => decide (x ≠ []))).length ≤ i := Nat.le_trans (List.length_filter_le _ _) (by simp)
    have hs : ((List.range (i + 1)).map (memG g g.length)).filter (fun x => decide (x ≠ [])) = ((List.range i).map (memG g g.length)).filter (fun x => decide (x ≠ [])) ++ (if memG g g.length i ≠ [] then [memG g g.length i] else []) := by
      rw [List.range_succ, List.map_append, List.filter_append]
      congr 1
      by_cases h : memG g g.length i ≠ []
      · rw [if_pos h, List.map_cons, List.filter_cons, if_pos (by simpa using h)]; rfl
      · rw [if_neg h, List.map_cons, List.filter_cons, if_neg (by simpa using h)]; rfl
    generalize ((List.range i).map (memG g g.length)).filter (fun x => decide (x ≠ [])) = out at *
    generalize memG g g.length i = x at *
    simp only
    rw [w64 (by omega) (by omega)]
    by_cases h : x ≠ []
    · have hp := List.length_pos_iff.2 h
      rw [if_pos h] at hs
      rw [if_pos (by omega), g_room (by simp only [List.length_cons, List.length_nil]; omega) (by simp only [List.length_cons, List.length_nil]; omega)]
      exact hag _ ⟨i + 1, by rw [hs]; rfl, by omega⟩ (by simp only; omega)
    · rw [if_neg h, List.append_nil] at hs
      have hx : x = [] := by simpa using h
      rw [if_neg (by rw [hx]; simp)]
      exact hag _ ⟨i + 1, by rw [hs]; rfl, by omega⟩ (by simp only; omega)
  · rw [if_neg (by omega)]
    have : i = g.length := by omega
    subst this
    rfl

theorem ginv_zero (l : List Ml) : GInv l 0 ((List.range l.length).map Int.ofNat) := by
  have hget : ∀ a, a < l.length → ((List.range l.length).map Int.ofNat).getD a 0 = a := by
    intro a ha
    rw [List.getD_eq_getElem?_getD, List.getElem?_map, List.getElem?_range ha]
    rfl
  refine ⟨by simp, fun a ha => ?_, fun a ha => ?_, fun j k hj => absurd hj (Nat.not_lt_zero _), fun f hf a b ha hb h => ?_⟩
  · rw [hget a ha]; omega
  · rw [hget a ha, Int.toNat_natCast, hget a ha]
  · rw [hget a ha, hget b hb] at h
    have : a = b := by omega
    rw [this]

/-- the program's groups: by labels that are the same along every return, and nothing else is -/
theorem threads_ok (N : Nat) (l : List Ml) (hc : mail_Check N l = some 0) (hl : l.length ≤ 60) (hN : 1048577 < N) : ∃ g, GInv l l.length g ∧ mail_Threads N l = some (outG g l.length, 0) := by
  unfold mail_Threads
  rw [bindO_of hc, if_neg (by decide)]
  simp only [Int.toNat_natCast]
  rw [g_mk (by omega) (by omega) (by omega) (by omega)]
  have hrep : (List.replicate l.length (0 : Int)).length = l.length := by simp
  rw [initLoop N none _ l (List.replicate l.length 0) (by omega) N (by omega), hrep]
  simp only
  refine groupLoop N none _ l hl hN (fun o => ∃ g, GInv l l.length g ∧ o = some (outG g l.length, 0)) _ (ginv_zero l) (fun g hg => ⟨g, hg, ?_⟩) N (by omega)
  have hgl := hg.len
  simp only
  have := outLoop N none (fun x : List (List Int) × Unit => some (x.1, (0 : Int))) g (by omega) hN N (by omega)
  rw [hgl] at this
  exact this

def leftM (l : List Ml) : List Ml := l.filter fun m => !m.2.2.2.2.1

theorem purge1_eq (N : Nat) (m : Ml) : mail_Purge_1 N m = some m.2.2.2.2.1 := rfl

theorem leftM_succ (l : List Ml) {j : Nat} (h : j < l.length) : leftM (l.take (j + 1)) = leftM (l.take j) ++ (if (l.getD j ml0).2.2.2.2.1 = true then [] else [l.getD j ml0]) := by
  unfold leftM
  rw [List.take_add_one, List.filter_append, List.getElem?_eq_getElem h, List.getD_eq_getElem?_getD, List.getElem?_eq_getElem h]
  simp only [Option.toList_some, Option.getD_some, List.filter_cons, List.filter_nil]
  cases l[j].2.2.2.2.1 <;> rfl

/-- the rounds of DeleteFunc behind the first that goes -/
theorem shiftLoop {R : Type} (N : Nat) (s : R) (K : (List Ml × Int × Unit) → R) (l : List Ml) (hl : l.length ≤ 60) (Q : R → Prop) (h : ∀ (g : List Ml) (i : Nat), i ≤ l.length → g.length = l.length → g.take i = leftM l → Q (K (g, (i : Int), ()))) (g0 : List Ml) (i0 j0 : Nat)
    (h1 : i0 ≤ j0) (h2 : j0 ≤ l.length) (h3 : g0.length = l.length) (h4 : g0.take i0 = leftM (l.take j0)) (h5 : g0.drop j0 = l.drop j0) (n : Nat) (hn : l.length < n) :
    Q (iter (mail_Purge_i0_slices_DeleteFunc.s0 N s K ()) s n (g0, (i0 : Int), (j0 : Int), ())) := by
  refine iter_rule (fun v => ∃ (g : List Ml) (i j : Nat), v = (g, (i : Int), (j : Int), ()) ∧ i ≤ j ∧ j ≤ l.length ∧ g.length = l.length ∧ g.take i = leftM (l.take j) ∧ g.drop j = l.drop j) (fun v => l.length - v.2.2.1.toNat) Q ?_ n _ ⟨g0, i0, j0, rfl, h1, h2, h3, h4, h5⟩ (by simp only; omega)
  rintro v again ⟨g, i, j, rfl, hij, hj, hg, ht, hd⟩ hag
  unfold mail_Purge_i0_slices_DeleteFunc.s0
  simp only [decide_eq_true_eq]
  by_cases hlt : j < l.length
  · have hgj : g.getD j ml0 = l.getD j ml0 := by
      have := congrArg (fun x : List Ml => x.getD 0 ml0) hd
      simp only [List.getD_eq_getElem?_getD, List.getElem?_drop, Nat.add_zero] at this
      rw [List.getD_eq_getElem?_getD, List.getD_eq_getElem?_getD, this]
    have hd' : g.drop (j + 1) = l.drop (j + 1) := by
      have := congrArg (List.drop 1) hd
      rw [List.drop_drop, List.drop_drop] at this
      exact this
    have hs := leftM_succ l hlt
    rw [if_pos (by omega), gate_pos (inR_of (by omega) (by omega)), gate_pos (inR_of (by omega) (by omega)), getI_nat, hgj, bindO_of (purge1_eq N _), w64 (by omega) (by omega), w64 (by omega) (by omega)]
    cases hgn : (l.getD j ml0).2.2.2.2.1 with
    | true =>
      rw [hgn, if_pos rfl, List.append_nil] at hs
      rw [if_neg (by decide)]
      exact hag _ ⟨g, i, j + 1, by simp, by omega, by omega, hg, by rw [ht, hs], hd'⟩ (by simp only; omega)
    | false =>
      rw [hgn, if_neg (by decide)] at hs
      rw [if_pos (by decide), gate_pos (inR_of (by omega) (by omega)), gate_pos (inR_of (by omega) (by omega))]
      simp only [Int.toNat_natCast]
      refine hag _ ⟨g.set i (l.getD j ml0), i + 1, j + 1, rfl, by omega, by omega, by rw [List.length_set]; exact hg, ?_, ?_⟩ (by simp only; omega)
      · rw [hs, ← ht, List.take_add_one, List.getElem?_set_self (by omega)]
        rw [List.take_set_of_le (by omega)]
        rfl
      · rw [List.drop_set_of_lt (by omega), hd']
  · rw [if_neg (by omega)]
    have : j = l.length := by omega
    subst this
    rw [List.take_length] at ht
    exact h g i hij hg ht

theorem firstLoop {R : Type} (N : Nat) (s : R) (k0 : (List Ml × Unit) → R) (kr : (List Ml × Int × Unit) → R) (l : List Ml) (hl : l.length ≤ 60) (Q : R → Prop)
    (h0 : leftM l = l → Q (k0 (l, ()))) (h1 : ∀ i, i < l.length → leftM (l.take (i + 1)) = l.take i → Q (kr (l, (i : Int), ()))) (n : Nat) (hn : l.length < n) :
    Q (iter (mail_Purge_i0_slices_DeleteFunc_i0_slices_IndexFunc.s0 N s k0 kr ((l.length : Int), ())) s n (l, (0 : Int), ())) := by
  refine iter_rule (fun v => ∃ i : Nat, v = (l, (i : Int), ()) ∧ i ≤ l.length ∧ leftM (l.take i) = l.take i) (fun v => l.length - v.2.1.toNat) Q ?_ n _ ⟨0, rfl, Nat.zero_le _, rfl⟩ (by simp only; omega)
  rintro v again ⟨i, rfl, hi, hall⟩ hag
  unfold mail_Purge_i0_slices_DeleteFunc_i0_slices_IndexFunc.s0
  simp only [decide_eq_true_eq]
  by_cases hlt : i < l.length
  · have hs := leftM_succ l hlt
    rw [if_pos (by omega), gate_pos (inR_of (by omega) (by omega)), gate_pos (inR_of (by omega) (by omega)), getI_nat, bindO_of (purge1_eq N _)]
    cases hgn : (l.getD i ml0).2.2.2.2.1 with
    | true =>
      rw [hgn, if_pos rfl, List.append_nil, hall] at hs
      rw [if_pos rfl]
      exact h1 i hlt hs
    | false =>
      rw [hgn, if_neg (by decide), hall] at hs
      rw [if_neg (by decide), w64 (by omega) (by omega)]
      refine hag _ ⟨i + 1, by simp, by omega, ?_⟩ (by simp only; omega)
      rw [hs, List.take_add_one, List.getElem?_eq_getElem hlt, List.getD_eq_getElem?_getD, List.getElem?_eq_getElem hlt]
      rfl
  · rw [if_neg (by omega)]
    have : i = l.length := by omega
    subst this
    rw [List.take_length] at hall
    exact h0 hall

theorem take_over {α : Type} (xs ys : List α) (i k : Nat) (h : i ≤ xs.length) : (over xs ys i k).take i = xs.take i := by
  unfold over
  rw [List.append_assoc, List.take_append_of_le_length (by rw [List.length_take]; omega), List.take_take, Nat.min_self]

theorem purge_ok (N : Nat) (l : List Ml) (hc : mail_Check N l = some 0) (hl : l.length ≤ 60) (hN : 1048577 < N) : mail_Purge N l = some (leftM l, 0) := by
  unfold mail_Purge
  rw [bindO_of hc, if_neg (by decide)]
  have hcl : slices_Clone_mail_Mail N l = some l := by
    unfold slices_Clone_mail_Mail
    simp only [List.length_nil, Nat.zero_add, List.nil_append]
    rw [g_room (by omega) (by omega)]
  rw [bindO_of hcl]
  refine firstLoop N none _ _ l hl (fun o => o = some (leftM l, 0)) (fun h => ?_) (fun i hi h => ?_) N (by omega)
  · simp only
    rw [if_pos (by decide), h]
  · simp only [decide_eq_true_eq]
    rw [if_neg (by omega), w64 (by omega) (by omega)]
    refine shiftLoop N none _ l hl (fun o => o = some (leftM l, 0)) (fun g k hk hg ht => ?_) l i (i + 1) (by omega) (by omega) rfl h.symm rfl N (by omega)
    simp only
    have hlen : ((g.length : Int) - (k : Int)).toNat = l.length - k := by omega
    rw [gate_pos (bounds_of (by omega) (by omega) (by omega))]
    simp only [hlen, Int.toNat_natCast]
    have hol : (over g (List.replicate (l.length - k) ([], ((0 : Int), ([], ([], (false, ([], []))))))) k (l.length - k)).length = l.length := by
      unfold over
      simp only [List.length_append, List.length_take, List.length_replicate, List.length_drop]
      omega
    rw [gate_pos (bounds_of (by omega) (by omega) (by omega)), mcut_take, take_over _ _ _ _ (by omega), ht]

def headI (m : Ml) : List Int := [109, 97, 105, 108, 32] ++ m.2.2.1 ++ [32] ++ m.1 ++ [32] ++ itoaI m.2.1 ++ [10]

def refI (m : Ml) : List Int := if m.2.2.2.1 = [] then [] else [114, 101, 102, 32] ++ m.2.2.2.1 ++ [10]

def goneI (m : Ml) : List Int := if m.2.2.2.2.1 = true then [103, 111, 110, 101, 10] else []

def aboutI (m : Ml) : List Int := [97, 98, 111, 117, 116, 32] ++ m.2.2.2.2.2.1 ++ [10]

def bodyI (t : List Int) : List Int := ((linesI t).map dotI).flatten

/-- what stands ahead of the text -/
def topI (m : Ml) : List Int := headI m ++ refI m ++ goneI m ++ aboutI m

def mailI (m : Ml) : List Int := topI m ++ bodyI m.2.2.2.2.2.2 ++ [46, 10]

def mboxI (l : List Ml) : List Int := l.flatMap mailI

theorem nDigits_le : ∀ (k u : Nat), u ≤ k → Go.Lib.nDigits u ≤ u + 1 := by
  intro k
  induction k with
  | zero => intro u hu; rw [Go.Lib.nDigits_small (by omega)]; omega
  | succ k ih =>
    intro u hu
    by_cases h : u < 10
    · rw [Go.Lib.nDigits_small h]; omega
    · rw [Go.Lib.nDigits_big h]
      have := ih (u / 10) (by omega)
      omega

theorem itoaI_len {n : Int} (h : 0 ≤ n) : (itoaI n).length ≤ n.toNat + 1 := by
  unfold itoaI Go.Lib.itoa
  rw [if_neg (by omega), List.length_map, Go.Lib.decDigits_length]
  exact nDigits_le _ _ (Nat.le_refl _)

theorem nameB_len {s : List Int} (h : nameB s = true) : s.length ≤ 12 ∧ s ≠ [] := by
  cases s with
  | nil => cases h
  | cons x r =>
    simp only [nameB, Bool.and_eq_true, decide_eq_true_eq] at h
    exact ⟨h.1, by simp⟩

theorem refB_len {s : List Int} (h : refB s = true) : s.length ≤ 12 := by
  unfold refB at h
  simp only [Bool.or_eq_true, decide_eq_true_eq] at h
  rcases h with h | h
  · rw [h]; simp
  · exact (nameB_len h).1

theorem bodyI_len (t : List Int) : (bodyI t).length ≤ 2 * t.length := by
  unfold bodyI
  have h1 := dots_len (linesI t)
  rw [mlines_flat] at h1
  have h2 := mlines_len t
  omega

/-- the lengths of what may be printed -/
structure Fits (m : Ml) : Prop where
  fr : m.1.length ≤ 12
  id : m.2.2.1.length ≤ 12
  rf : m.2.2.2.1.length ≤ 12
  ab : m.2.2.2.2.2.1.length ≤ 1048576
  tx : m.2.2.2.2.2.2.length ≤ 1048576
  tm : (itoaI m.2.1).length ≤ 4294967296

theorem fits_of {m : Ml} (h : oneI m = 0) (hs : Small m) : Fits m := by
  obtain ⟨h1, h2, h3, h4, h5, _⟩ := oneI_text h
  have := itoaI_len h4
  exact ⟨(nameB_len h1).1, (nameB_len h2).1, refB_len h3, hs.2.2.2.1, hs.2.2.2.2, by omega⟩

theorem dotsLoop {R : Type} (N : Nat) (s : R) (c : List Ml × Int × Int × Unit) (K : (List Int × Unit) → R) : ∀ (ls : List (List Int)) (acc : List Int), (∀ p ∈ ls, p ≠ []) → acc.length + ls.flatten.length + ls.length ≤ 8589934592 →
    foldR (mail_Print.r0 N s c) K ls (acc, ()) = K (acc ++ (ls.map dotI).flatten, ()) := by
  intro ls
  induction ls with
  | nil => intro acc _ _; simp [foldR]
  | cons p r ih =>
    intro acc hne hl
    simp only [List.flatten_cons, List.length_append, List.length_cons] at hl
    have hp := List.length_pos_iff.2 (hne p (by simp))
    rw [foldR]
    generalize foldR (mail_Print.r0 N s c) K r = again at *
    unfold mail_Print.r0
    simp only [decide_eq_true_eq]
    rw [gate_pos (inR_of (by omega) (by omega))]
    have hr := fun q hq => hne q (List.mem_cons_of_mem _ hq)
    cases p with
    | nil => exact absurd rfl (hne [] (by simp))
    | cons x t =>
      have e0 : getI 0 (x :: t) (0 : Int) = x := rfl
      rw [e0]
      simp only [List.length_cons] at hl
      by_cases h : x = 46
      · rw [if_pos h, g_room (by simp only [List.length_append, List.length_cons, List.length_nil]; omega) (by simp only [List.length_append, List.length_cons, List.length_nil]; omega), g_room (by simp only [List.length_append, List.length_cons, List.length_nil]; omega) (by simp only [List.length_append, List.length_cons, List.length_nil]; omega)]
        rw [ih _ hr (by simp only [List.length_append, List.length_cons, List.length_nil]; omega)]
        simp only [List.map_cons, dotI, if_pos h, List.flatten_cons, List.append_assoc, List.cons_append, List.nil_append]
      · rw [if_neg h, g_room (by simp only [List.length_append, List.length_cons, List.length_nil]; omega) (by simp only [List.length_append, List.length_cons, List.length_nil]; omega)]
        rw [ih _ hr (by simp only [List.length_append, List.length_cons, List.length_nil]; omega)]
        simp only [List.map_cons, dotI, if_neg h, List.flatten_cons, List.append_assoc, List.cons_append, List.nil_append]

theorem print_round {R : Type} (N : Nat) (s : R) (k0 : (List Int × Unit) → R) (kr : (List Int × Int × Unit) → R) (again : (Int × List Int × Unit) → R) (l : List Ml) (i : Nat) (acc : List Int) (hi : i < l.length) (hl : l.length ≤ 60) (hf : Fits (l.getD i ml0)) (ha : acc.length ≤ 65536) :
    mail_Print.s0 N s k0 kr (l, (l.length : Int), ()) again ((i : Int), acc, ()) =
      if 65536 < (acc ++ mailI (l.getD i ml0)).length then kr ([], 2, ()) else again (((i + 1 : Nat) : Int), acc ++ mailI (l.getD i ml0), ()) := by
  unfold mail_Print.s0
  simp only [decide_eq_true_eq]
  rw [if_pos (by omega), gate_pos (inR_of (by omega) (by omega)), getI_nat, w64 (by omega) (by omega)]
  generalize l.getD i ml0 = m at *
  obtain ⟨fr, tm, id, rf, gn, ab, tx⟩ := m
  obtain ⟨h1, h2, h3, h4, h5, h6⟩ := hf
  simp only at h1 h2 h3 h4 h5 h6 ⊢
  have hlf := mlines_flat tx
  have hll := mlines_len tx
  rw [g_dec (by simp only [List.length_append, List.length_cons, List.length_nil]; omega), g_dec (by simp only [List.length_append, List.length_cons, List.length_nil]; omega), g_dec (by simp only [List.length_append, List.length_cons, List.length_nil]; omega), g_dec (by simp only [List.length_append, List.length_cons, List.length_nil]; omega)]
  rw [bindO_of (show itoaF tm = some (itoaI tm) from rfl)]
  rw [g_dec (by simp only [List.length_append, List.length_cons, List.length_nil]; omega), g_dec (by simp only [List.length_append, List.length_cons, List.length_nil]; omega), g_room (by simp only [List.length_append, List.length_cons, List.length_nil]; omega) (by simp only [List.length_append, List.length_cons, List.length_nil]; omega)]
  have e1 : (if (!decide (rf = [])) = true then
      gate (decide ([114, 101, 102, 32].length + rf.length ≤ 140737488355328)) (gate (decide (([114, 101, 102, 32] ++ rf).length + [10].length ≤ 140737488355328))
        (gate (roomFor ((acc ++ (([109, 97, 105, 108, 32] ++ id ++ [32] ++ fr ++ [32] ++ itoaI tm) ++ [10])).length + (([114, 101, 102, 32] ++ rf) ++ [10]).length) 1)
          (some ((acc ++ (([109, 97, 105, 108, 32] ++ id ++ [32] ++ fr ++ [32] ++ itoaI tm) ++ [10])) ++ (([114, 101, 102, 32] ++ rf) ++ [10]), fr, tm, id, rf, gn, ab, tx, ())) none) none) none
      else some (acc ++ (([109, 97, 105, 108, 32] ++ id ++ [32] ++ fr ++ [32] ++ itoaI tm) ++ [10]), fr, tm, id, rf, gn, ab, tx, ()) : Option (List Int × List Int × Int × List Int × List Int × Bool × List Int × List Int × Unit)) =
      some (acc ++ (headI (fr, tm, id, rf, gn, ab, tx) ++ refI (fr, tm, id, rf, gn, ab, tx)), fr, tm, id, rf, gn, ab, tx, ()) := by
    unfold headI refI
    by_cases hr : rf = []
    · simp only [hr, decide_true, Bool.not_true, Bool.false_eq_true, if_false, if_true, List.append_nil]
    · rw [if_pos (by rw [decide_eq_false hr]; rfl), if_neg hr]
      rw [g_dec (by simp only [List.length_append, List.length_cons, List.length_nil]; omega), g_dec (by simp only [List.length_append, List.length_cons, List.length_nil]; omega), g_room (by simp only [List.length_append, List.length_cons, List.length_nil]; omega) (by simp only [List.length_append, List.length_cons, List.length_nil]; omega)]
      simp only [List.append_assoc]
  rw [bindO_of e1]
  have hh : (headI (fr, tm, id, rf, gn, ab, tx) ++ refI (fr, tm, id, rf, gn, ab, tx)).length ≤ 4294967400 := by
    unfold headI refI
    split <;> simp only [List.length_append, List.length_cons, List.length_nil] <;> omega
  generalize hhd : headI (fr, tm, id, rf, gn, ab, tx) ++ refI (fr, tm, id, rf, gn, ab, tx) = hd at *
  have e2 : (if gn = true then gate (roomFor ((acc ++ hd).length + [103, 111, 110, 101, 10].length) 1) (some ((acc ++ hd) ++ [103, 111, 110, 101, 10], fr, tm, id, rf, gn, ab, tx, ())) none
      else some (acc ++ hd, fr, tm, id, rf, gn, ab, tx, ()) : Option (List Int × List Int × Int × List Int × List Int × Bool × List Int × List Int × Unit)) = some (acc ++ (hd ++ goneI (fr, tm, id, rf, gn, ab, tx)), fr, tm, id, rf, gn, ab, tx, ()) := by
    unfold goneI
    cases gn with
    | true =>
      rw [if_pos rfl, if_pos rfl, g_room (by simp only [List.length_append, List.length_cons, List.length_nil]; omega) (by simp only [List.length_append, List.length_cons, List.length_nil]; omega)]
      simp only [List.append_assoc]
    | false => simp only [Bool.false_eq_true, if_false, List.append_nil]
  simp only
  rw [bindO_of e2]
  have hg : (goneI (fr, tm, id, rf, gn, ab, tx)).length ≤ 5 := by unfold goneI; split <;> simp
  generalize hgn : goneI (fr, tm, id, rf, gn, ab, tx) = g at *
  simp only
  rw [g_dec (by simp only [List.length_append, List.length_cons, List.length_nil]; omega), g_dec (by simp only [List.length_append, List.length_cons, List.length_nil]; omega), g_room (by simp only [List.length_append, List.length_cons, List.length_nil]; omega) (by simp only [List.length_append, List.length_cons, List.length_nil]; omega)]
  rw [bindO_of (show linesGo tx = some (linesI tx) from rfl), dotsLoop N s _ _ (linesI tx) _ (mlines_ne tx) (by rw [hlf]; simp only [List.length_append, List.length_cons, List.length_nil]; omega)]
  have hb := bodyI_len tx
  have ebd : ((linesI tx).map dotI).flatten = bodyI tx := rfl
  simp only [ebd]
  rw [g_room (by simp only [List.length_append, List.length_cons, List.length_nil]; omega) (by simp only [List.length_append, List.length_cons, List.length_nil]; omega)]
  have em : acc ++ (hd ++ g) ++ ([97, 98, 111, 117, 116, 32] ++ ab ++ [10]) ++ bodyI tx ++ [46, 10] = acc ++ mailI (fr, tm, id, rf, gn, ab, tx) := by
    unfold mailI topI aboutI
    rw [hhd, hgn]
    simp only [List.append_assoc]
  simp only [em]
  by_cases hbig : 65536 < (acc ++ mailI (fr, tm, id, rf, gn, ab, tx)).length
  · rw [if_pos (by omega), if_pos hbig]
  · rw [if_neg (by omega), if_neg hbig]
    rfl

theorem mbox_take_le (l : List Ml) (k : Nat) : (mboxI (l.take k)).length ≤ (mboxI l).length := by
  conv => rhs; rw [← List.take_append_drop k l]
  unfold mboxI
  rw [List.flatMap_append, List.length_append]
  omega

theorem mbox_succ (l : List Ml) {i : Nat} (h : i < l.length) : mboxI (l.take (i + 1)) = mboxI (l.take i) ++ mailI (l.getD i ml0) := by
  unfold mboxI
  rw [List.take_add_one, List.flatMap_append, List.getElem?_eq_getElem h, List.getD_eq_getElem?_getD, List.getElem?_eq_getElem h]
  simp

theorem print_ok (N : Nat) (l : List Ml) (hc : mail_Check N l = some 0) (hl : l.length ≤ 60) (hf : ∀ e ∈ l, Fits e) (hN : 1048577 < N) : mail_Print N l = some (if 65536 < (mboxI l).length then ([], 2) else (mboxI l, 0)) := by
  unfold mail_Print
  rw [bindO_of hc, if_neg (by decide)]
  refine iter_rule (fun v => ∃ i : Nat, v = ((i : Int), mboxI (l.take i), ()) ∧ i ≤ l.length ∧ (mboxI (l.take i)).length ≤ 65536) (fun v => l.length - v.1.toNat)
    (fun o => o = some (if 65536 < (mboxI l).length then ([], 2) else (mboxI l, 0))) ?_ N _ ⟨0, rfl, Nat.zero_le _, by simp [mboxI]⟩ (by simp only; omega)
  rintro v again ⟨i, rfl, hi, hle⟩ hag
  by_cases hlt : i < l.length
  · rw [print_round N _ _ _ _ l i _ hlt hl (hf _ (ml_mem hlt)) hle, ← mbox_succ l hlt]
    by_cases hbig : 65536 < (mboxI (l.take (i + 1))).length
    · rw [if_pos hbig, if_pos (Nat.lt_of_lt_of_le hbig (mbox_take_le l _))]
    · rw [if_neg hbig]
      exact hag _ ⟨i + 1, rfl, by omega, by omega⟩ (by simp only; omega)
  · have : i = l.length := by omega
    subst this
    rw [List.take_length] at hle ⊢
    unfold mail_Print.s0
    simp only [decide_eq_true_eq]
    rw [if_neg (by omega), if_neg (by omega)]

theorem fact_print (N : Nat) (hN : 1048577 < N) : mail_Print N [([97], ((5 : Int), ([98], ([], (false, ([], []))))))] = some ([109, 97, 105, 108, 32, 98, 32, 97, 32, 53, 10, 97, 98, 111, 117, 116, 32, 10, 46, 10], 0) := by
  have hs : ∀ e ∈ ([([97], ((5 : Int), ([98], ([], (false, ([], []))))))] : List Ml), Small e := by
    intro e he
    simp only [List.mem_singleton] at he
    subst he
    unfold Small
    decide
  obtain ⟨r, h1, h2⟩ := mcheck_res N [([97], ((5 : Int), ([98], ([], (false, ([], []))))))] hs hN
  have hr : r = 0 := resM_unique h2 (Or.inr ⟨by decide, Or.inr ⟨fun j hj => by
    have : j = 0 := by simp at hj; omega
    subst this
    decide, rfl⟩⟩)
  subst hr
  have hf : ∀ e ∈ ([([97], ((5 : Int), ([98], ([], (false, ([], []))))))] : List Ml), Fits e := fun e he => fits_of ((resM_zero h2).2 e he) (hs e he)
  have hp := print_ok N _ h1 (by decide) hf hN
  have em : mboxI [([97], ((5 : Int), ([98], ([], (false, ([], []))))))] = [109, 97, 105, 108, 32, 98, 32, 97, 32, 53, 10, 97, 98, 111, 117, 116, 32, 10, 46, 10] := by decide +kernel
  rw [hp, em]
  rfl

theorem kmails_true (N : Nat) (hN : 1048577 < N) : wrackkeep2_mails N = some true := by
  unfold wrackkeep2_mails
  simp only
  rw [bindO_of (fact_print N hN)]
  rfl

abbrev IM := List (Int × Int)

def getM (m : IM) (x : Int) : Option Int := mapGet (k := .int .i64) (v := .int .i64) m x

def putM (m : IM) (x y : Int) : IM := mapPut (k := .int .i64) (v := .int .i64) m x y

theorem getM_none {m : IM} {x : Int} (h : ∀ e ∈ m, e.1 ≠ x) : getM m x = none := by
  induction m with
  | nil => rfl
  | cons e r ih =>
    unfold getM
    simp only [mapGet, keyEq, decide_eq_true_eq]
    rw [if_neg (fun e2 => h e (by simp) e2.symm)]
    exact ih fun q hq => h q (List.mem_cons_of_mem _ hq)

theorem putM_new {m : IM} {x y : Int} (h : ∀ e ∈ m, e.1 ≠ x) : putM m x y = m ++ [(x, y)] := by
  induction m with
  | nil => rfl
  | cons e r ih =>
    unfold putM
    simp only [mapPut, keyEq, decide_eq_true_eq]
    rw [if_neg (fun e2 => h e (by simp) e2.symm)]
    have := ih fun q hq => h q (List.mem_cons_of_mem _ hq)
    unfold putM at this
    rw [this]
    rfl

/-- the map of groups: of each message the number of its group -/
def pairsM : List (List Int) → Nat → IM
  | [], _ => []
  | p :: r, c => p.map (fun x => (x, (c : Int))) ++ pairsM r (c + 1)

theorem pairsM_keys : ∀ (G : List (List Int)) (c : Nat), (pairsM G c).map Prod.fst = G.flatten := by
  intro G
  induction G with
  | nil => intro c; rfl
  | cons p r ih =>
    intro c
    simp only [pairsM, List.map_append, List.flatten_cons, ih]
    congr 1
    rw [List.map_map]
    exact List.map_id'' (fun _ => rfl) p

theorem pairsM_app : ∀ (G H : List (List Int)) (c : Nat), pairsM (G ++ H) c = pairsM G c ++ pairsM H (c + G.length) := by
  intro G
  induction G with
  | nil => intro H c; rfl
  | cons p r ih =>
    intro H c
    simp only [List.cons_append, pairsM, ih, List.append_assoc, List.length_cons]
    rw [show c + 1 + r.length = c + (r.length + 1) by omega]

theorem getM_app (a b : IM) (x : Int) : getM (a ++ b) x = (getM a x).or (getM b x) := by
  induction a with
  | nil => rfl
  | cons e r ih =>
    unfold getM at ih ⊢
    simp only [List.cons_append, mapGet, keyEq, decide_eq_true_eq]
    by_cases h : x = e.1
    · rw [if_pos h, if_pos h]; rfl
    · rw [if_neg h, if_neg h, ih]

theorem getM_row (p : List Int) (c : Int) (x : Int) : getM (p.map fun y => (y, c)) x = if x ∈ p then some c else none := by
  induction p with
  | nil => rfl
  | cons y r ih =>
    unfold getM at ih ⊢
    simp only [List.map_cons, mapGet, keyEq, decide_eq_true_eq, List.mem_cons]
    by_cases h : x = y
    · rw [if_pos h, if_pos (Or.inl h)]
    · rw [if_neg h, ih]
      by_cases h2 : x ∈ r
      · rw [if_pos h2, if_pos (Or.inr h2)]
      · rw [if_neg h2, if_neg (fun h3 => h3.elim h h2)]

theorem getM_same : ∀ (G : List (List Int)) (c : Nat) (x y : Int), (∀ p ∈ G, x ∈ p ↔ y ∈ p) → getM (pairsM G c) x = getM (pairsM G c) y := by
  intro G
  induction G with
  | nil => intro c x y _; rfl
  | cons p r ih =>
    intro c x y h
    simp only [pairsM]
    rw [getM_app, getM_app, getM_row, getM_row, ih (c + 1) x y fun q hq => h q (List.mem_cons_of_mem _ hq)]
    have := h p (by simp)
    by_cases hx : x ∈ p
    · rw [if_pos hx, if_pos (this.1 hx)]
    · rw [if_neg hx, if_neg (fun hy => hx (this.2 hy))]

theorem putLoop {R : Type} (N : Nat) (s : R) (K : (List Ml × IM × List (List Int) × Unit) → R) (kr : (Bool × Unit) → R) (all : List Ml) (c2 c3 : Int) (i : Nat) (c5 c6 : Int) (p : List Int) (left : List Ml) (G : List (List Int)) (m0 : IM)
    (hp : p.length ≤ 60) (hr : ∀ x ∈ p, 0 ≤ x ∧ x < all.length) (hd : (m0.map Prod.fst ++ p).Nodup) (n : Nat) (hn : p.length < n) :
    iter (wrackkeep2_MailThreaded.s1 N s K kr (all, c2, c3, (i : Int), c5, c6, p, (p.length : Int), ())) s n (left, m0, G, (0 : Int), ()) = K (left, m0 ++ p.map (fun x => (x, (i : Int))), G, ()) := by
  refine iter_rule (fun v => ∃ j : Nat, v = (left, m0 ++ (p.take j).map (fun x => (x, (i : Int))), G, (j : Int), ()) ∧ j ≤ p.length) (fun v => p.length - v.2.2.2.1.toNat) (fun o => o = K (left, m0 ++ p.map (fun x => (x, (i : Int))), G, ())) ?_ n _ ⟨0, by simp, Nat.zero_le _⟩ (by simp only; omega)
  rintro v again ⟨j, rfl, hj⟩ hag
  unfold wrackkeep2_MailThreaded.s1
  simp only [decide_eq_true_eq]
  by_cases hlt : j < p.length
  · have hm : p.getD j 0 ∈ p := by
      rw [List.getD_eq_getElem?_getD, List.getElem?_eq_getElem hlt]
      exact List.getElem_mem hlt
    have hrx := hr _ hm
    have hnew : ∀ e ∈ m0 ++ (p.take j).map (fun x => (x, (i : Int))), e.1 ≠ p.getD j 0 := by
      intro e he
      rw [List.nodup_append] at hd
      obtain ⟨_, d2, d3⟩ := hd
      rcases List.mem_append.1 he with h | h
      · exact d3 e.1 (List.mem_map.2 ⟨e, h, rfl⟩) _ hm
      · rw [List.mem_map] at h
        obtain ⟨x, hx, rfl⟩ := h
        simp only
        intro e2
        obtain ⟨q, hq, hqx⟩ := List.getElem_of_mem hx
        rw [List.length_take] at hq
        rw [List.getElem_take] at hqx
        have e3 : p[q] = p[j] := by
          rw [hqx, e2, List.getD_eq_getElem?_getD, List.getElem?_eq_getElem hlt]; rfl
        exact (List.pairwise_iff_getElem.1 d2) q j (by omega) hlt (by omega) e3
    have hs : m0 ++ (p.take (j + 1)).map (fun x => (x, (i : Int))) = (m0 ++ (p.take j).map (fun x => (x, (i : Int)))) ++ [(p.getD j 0, (i : Int))] := by
      rw [List.take_add_one, List.getElem?_eq_getElem hlt, List.getD_eq_getElem?_getD, List.getElem?_eq_getElem hlt, List.map_append, List.append_assoc]
      rfl
    rw [if_pos (by omega), gate_pos (inR_of (by omega) (by omega)), getI_nat, w64 (by omega) (by omega)]
    generalize p.getD j 0 = x at *
    generalize m0 ++ (p.take j).map (fun x => (x, (i : Int))) = m at *
    have hg : mapGet (k := .int .i64) (v := .int .i64) m x = none := getM_none hnew
    rw [hg]
    simp only [Option.isSome_none, Bool.false_eq_true, if_false]
    rw [if_neg (by omega), decide_eq_false (show ¬ (x ≥ (all.length : Int)) by omega)]
    simp only [bindO, Bool.false_eq_true, if_false]
    have hput : mapPut (k := .int .i64) (v := .int .i64) m x (i : Int) = m ++ [(x, (i : Int))] := putM_new hnew
    rw [hput, ← hs]
    exact hag _ ⟨j + 1, rfl, by omega⟩ (by simp only; omega)
  · rw [if_neg (by omega)]
    have : j = p.length := by omega
    subst this
    rw [List.take_length]

theorem putAll {R : Type} (N : Nat) (s : R) (K : (List Ml × IM × Unit) → R) (kr : (Bool × Unit) → R) (all : List Ml) (c2 c3 : Int) (G : List (List Int)) (left : List Ml) (hG : G.length ≤ 60) (hN : 1048577 < N) (hp : ∀ p ∈ G, p.length ≤ 60 ∧ ∀ x ∈ p, 0 ≤ x ∧ x < all.length) (hd : G.flatten.Nodup)
    (n : Nat) (hn : G.length < n) :
    iter (wrackkeep2_MailThreaded.s0 N s K kr (all, c2, c3, (G.length : Int), ())) s n (left, ([] : IM), G, (0 : Int), ()) = K (left, pairsM G 0, ()) := by
  refine iter_rule (fun v => ∃ i : Nat, v = (left, pairsM (G.take i) 0, G, (i : Int), ()) ∧ i ≤ G.length) (fun v => G.length - v.2.2.2.1.toNat) (fun o => o = K (left, pairsM G 0, ())) ?_ n _ ⟨0, rfl, Nat.zero_le _⟩ (by simp only; omega)
  rintro v again ⟨i, rfl, hi⟩ hag
  unfold wrackkeep2_MailThreaded.s0
  simp only [decide_eq_true_eq]
  by_cases hlt : i < G.length
  · have hm : G.getD i [] ∈ G := by
      rw [List.getD_eq_getElem?_getD, List.getElem?_eq_getElem hlt]
      exact List.getElem_mem hlt
    obtain ⟨p1, p2⟩ := hp _ hm
    have ht : G.take (i + 1) = G.take i ++ [G.getD i []] := by
      rw [List.take_add_one, List.getElem?_eq_getElem hlt, List.getD_eq_getElem?_getD, List.getElem?_eq_getElem hlt]
      rfl
    have hd2 : ((pairsM (G.take i) 0).map Prod.fst ++ G.getD i []).Nodup := by
      rw [pairsM_keys]
      have e : (G.take i).flatten ++ G.getD i [] = (G.take (i + 1)).flatten := by rw [ht]; simp
      rw [e]
      refine List.Nodup.sublist ?_ hd
      conv => rhs; rw [← List.take_append_drop (i + 1) G]
      rw [List.flatten_append]
      exact List.sublist_append_left _ _
    rw [if_pos (by omega), gate_pos (inR_of (by omega) (by omega)), gate_pos (inR_of (by omega) (by omega)), getI_nat]
    rw [putLoop N s _ _ all _ _ i _ _ (G.getD i []) left G _ p1 p2 hd2 N (by omega)]
    simp only
    rw [w64 (by omega) (by omega)]
    have hs : pairsM (G.take (i + 1)) 0 = pairsM (G.take i) 0 ++ (G.getD i []).map (fun x => (x, (i : Int))) := by
      rw [ht, pairsM_app]
      simp only [pairsM, List.append_nil, List.length_take, Nat.zero_add]
      rw [show min i G.length = i by omega]
    rw [← hs]
    exact hag _ ⟨i + 1, rfl, by omega⟩ (by simp only; omega)
  · rw [if_neg (by omega)]
    have : i = G.length := by omega
    subst this
    rw [List.take_length]

theorem refLoop2 {R : Type} (N : Nat) (s : R) (k0 : (List Ml × IM × List Int × Int × List Int × List Int × Bool × List Int × List Int × Unit) → R) (kr : (List Ml × IM × List Int × Int × List Int × List Int × Bool × List Int × List Int × Int × Unit) → R) (l left : List Ml) (g : IM)
    (i : Nat) (hl : l.length ≤ 1048576) (Q : R → Prop)
    (h0 : Q (k0 (left, g, (l.getD i ml0).1, (l.getD i ml0).2.1, (l.getD i ml0).2.2.1, (l.getD i ml0).2.2.2.1, (l.getD i ml0).2.2.2.2.1, (l.getD i ml0).2.2.2.2.2.1, (l.getD i ml0).2.2.2.2.2.2, ())))
    (h1 : ∀ k : Nat, edgeM l i k → Q (kr (left, g, (l.getD i ml0).1, (l.getD i ml0).2.1, (l.getD i ml0).2.2.1, (l.getD i ml0).2.2.2.1, (l.getD i ml0).2.2.2.2.1, (l.getD i ml0).2.2.2.2.2.1, (l.getD i ml0).2.2.2.2.2.2, (k : Int), ()))) (n : Nat) (hn : l.length < n) :
    Q (iter (wrackkeep2_MailThreaded_i0_slices_IndexFunc.s0 N s k0 kr (l, (l.length : Int), ())) s n (left, g, (l.getD i ml0).1, (l.getD i ml0).2.1, (l.getD i ml0).2.2.1, (l.getD i ml0).2.2.2.1, (l.getD i ml0).2.2.2.2.1, (l.getD i ml0).2.2.2.2.2.1, (l.getD i ml0).2.2.2.2.2.2, (0 : Int), ())) := by
  have key : ∀ k, edgeM l i k ↔ (k < l.length ∧ (l.getD k ml0).2.2.1 = (l.getD i ml0).2.2.2.1 ∧ ∀ j, j < k → (l.getD j ml0).2.2.1 ≠ (l.getD i ml0).2.2.2.1) := fun k => Iff.rfl
  generalize l.getD i ml0 = m at *
  obtain ⟨a1, a2, a3, p, a5, a6, a7⟩ := m
  simp only at key h0 h1 ⊢
  refine iter_rule (fun v => ∃ i : Nat, v = (left, g, a1, a2, a3, p, a5, a6, a7, (i : Int), ()) ∧ i ≤ l.length ∧ ∀ j : Nat, j < i → (l.getD j ml0).2.2.1 ≠ p) (fun v => l.length - v.2.2.2.2.2.2.2.2.2.1.toNat) Q ?_ n _ ⟨0, rfl, Nat.zero_le _, fun j hj => absurd hj (Nat.not_lt_zero _)⟩ (by simp only; omega)
  rintro v again ⟨i, rfl, hi, hall⟩ hag
  unfold wrackkeep2_MailThreaded_i0_slices_IndexFunc.s0
  simp only [decide_eq_true_eq]
  by_cases hlt : i < l.length
  · rw [if_pos (by omega), gate_pos (inR_of (by omega) (by omega)), getI_nat]
    by_cases h : (l.getD i ml0).2.2.1 = p
    · rw [if_pos h]
      exact h1 i ((key i).2 ⟨hlt, h, hall⟩)
    · rw [if_neg h, w64 (by omega) (by omega)]
      refine hag _ ⟨i + 1, by simp, by omega, fun j hj => ?_⟩ (by simp only; omega)
      rcases Nat.lt_or_eq_of_le (Nat.le_of_lt_succ hj) with h2 | h2
      · exact hall j h2
      · subst h2; exact h
  · rw [if_neg (by omega)]
    exact h0

theorem sameAll {R : Type} (N : Nat) (s : R) (K : (List Ml × IM × Unit) → R) (kr : (Bool × Unit) → R) (l left : List Ml) (c2 c3 : Int) (M : IM) (hl : l.length ≤ 60) (hN : 1048577 < N) (h : ∀ i k, i < l.length → edgeM l i k → getM M (i : Int) = getM M (k : Int)) (n : Nat) (hn : l.length < n) :
    iter (wrackkeep2_MailThreaded.s2 N s K kr (l, c2, c3, l, (l.length : Int), ())) s n (left, M, (0 : Int), ()) = K (left, M, ()) := by
  refine iter_rule (fun v => ∃ i : Nat, v = (left, M, (i : Int), ()) ∧ i ≤ l.length) (fun v => l.length - v.2.2.1.toNat) (fun o => o = K (left, M, ())) ?_ n _ ⟨0, rfl, Nat.zero_le _⟩ (by simp only; omega)
  rintro v again ⟨i, rfl, hi⟩ hag
  unfold wrackkeep2_MailThreaded.s2
  simp only [decide_eq_true_eq]
  by_cases hlt : i < l.length
  · rw [if_pos (by omega), gate_pos (inR_of (by omega) (by omega)), getI_nat]
    refine refLoop2 N s _ _ l left M i (by omega) (fun o => o = K (left, M, ())) ?_ (fun k hk => ?_) N (by omega)
    · simp only
      rw [if_neg (by decide)]
      simp only [bindO, Bool.false_eq_true, if_false]
      rw [w64 (by omega) (by omega)]
      exact hag _ ⟨i + 1, rfl, by omega⟩ (by simp only; omega)
    · have he : mapGet (k := .int .i64) (v := .int .i64) M (i : Int) = mapGet (k := .int .i64) (v := .int .i64) M (k : Int) := h i k hlt hk
      simp only
      rw [if_pos (by omega), he]
      simp only [decide_true, Bool.not_true, bindO, Bool.false_eq_true, if_false]
      rw [w64 (by omega) (by omega)]
      exact hag _ ⟨i + 1, rfl, by omega⟩ (by simp only; omega)
  · rw [if_neg (by omega)]

theorem noneGone (N : Nat) (M : IM) (l : List Ml) (hl : l.length ≤ 60) (hN : 1048577 < N) (h : ∀ e ∈ l, e.2.2.2.2.1 = false) (K : (IM × Unit) → Option Bool) (kr : (IM × Int × Unit) → Option Bool) :
    iter (wrackkeep2_MailThreaded_i1_slices_ContainsFunc_i0_slices_IndexFunc.s0 N none K kr (l, (l.length : Int), ())) none N (M, (0 : Int), ()) = K (M, ()) := by
  refine iter_rule (fun v => ∃ i : Nat, v = (M, (i : Int), ()) ∧ i ≤ l.length) (fun v => l.length - v.2.1.toNat) (fun o => o = K (M, ())) ?_ N _ ⟨0, rfl, Nat.zero_le _⟩ (by simp only; omega)
  rintro v again ⟨i, rfl, hi⟩ hag
  unfold wrackkeep2_MailThreaded_i1_slices_ContainsFunc_i0_slices_IndexFunc.s0
  simp only [decide_eq_true_eq]
  by_cases hlt : i < l.length
  · have h2 : wrackkeep2_MailThreaded_2 N (l.getD i ml0) = some false := by
      unfold wrackkeep2_MailThreaded_2
      rw [h _ (ml_mem hlt)]
    rw [if_pos (by omega), gate_pos (inR_of (by omega) (by omega)), getI_nat, bindO_of h2, if_neg (by decide), w64 (by omega) (by omega)]
    exact hag _ ⟨i + 1, rfl, by omega⟩ (by simp only; omega)
  · rw [if_neg (by omega)]

theorem memG_mem {g : List Int} {n i : Nat} {x : Int} : x ∈ memG g n i ↔ ∃ j, j < n ∧ g.getD j 0 = i ∧ x = (j : Int) := by
  unfold memG
  rw [List.mem_map]
  constructor
  · rintro ⟨j, hj, rfl⟩
    rw [List.mem_filter, List.mem_range, decide_eq_true_eq] at hj
    exact ⟨j, hj.1, hj.2, rfl⟩
  · rintro ⟨j, h1, h2, rfl⟩
    exact ⟨j, by rw [List.mem_filter, List.mem_range, decide_eq_true_eq]; exact ⟨h1, h2⟩, rfl⟩

theorem outG_mem {g : List Int} {n : Nat} {p : List Int} (h : p ∈ outG g n) : ∃ i, i < n ∧ p = memG g n i := by
  unfold outG at h
  rw [List.mem_filter, List.mem_map] at h
  obtain ⟨⟨i, hi, rfl⟩, _⟩ := h
  exact ⟨i, List.mem_range.1 hi, rfl⟩

theorem outG_nodup (g : List Int) (n : Nat) : (outG g n).flatten.Nodup := by
  unfold List.Nodup
  rw [List.pairwise_flatten]
  constructor
  · intro p hp
    obtain ⟨i, _, rfl⟩ := outG_mem hp
    unfold memG
    rw [List.pairwise_map]
    exact ((List.nodup_range (n := n)).filter _).imp fun h e => h (Int.ofNat.inj e)
  · unfold outG
    refine List.Pairwise.filter _ ?_
    rw [List.pairwise_map]
    refine (List.pairwise_lt_range (n := n)).imp fun {a b} hab x hx y hy e => ?_
    rw [memG_mem] at hx hy
    obtain ⟨j, _, h1, rfl⟩ := hx
    obtain ⟨k, _, h2, e2⟩ := hy
    have : j = k := by omega
    subst this
    omega

theorem outG_len {l : List Ml} {g : List Int} (hg : GInv l l.length g) : (outG g l.length).flatten.length = l.length := by
  have hp : (outG g l.length).flatten.Perm ((List.range l.length).map Int.ofNat) := by
    refine (List.perm_ext_iff_of_nodup (outG_nodup g l.length) ?_).2 fun x => ?_
    · unfold List.Nodup
      rw [List.pairwise_map]
      exact (List.nodup_range (n := l.length)).imp fun h e => h (Int.ofNat.inj e)
    · rw [List.mem_flatten, List.mem_map]
      constructor
      · rintro ⟨p, hp, hx⟩
        obtain ⟨i, _, rfl⟩ := outG_mem hp
        rw [memG_mem] at hx
        obtain ⟨j, hj, _, rfl⟩ := hx
        exact ⟨j, List.mem_range.2 hj, rfl⟩
      · rintro ⟨j, hj, rfl⟩
        have hj := List.mem_range.1 hj
        have hlow := hg.low j hj
        have hm : Int.ofNat j ∈ memG g l.length (g.getD j 0).toNat := by
          rw [memG_mem]
          exact ⟨j, hj, by omega, rfl⟩
        refine ⟨_, ?_, hm⟩
        unfold outG
        rw [List.mem_filter, List.mem_map]
        exact ⟨⟨_, List.mem_range.2 (by omega), rfl⟩, by
          rw [decide_eq_true_eq]
          intro e
          rw [e] at hm
          cases hm⟩
  rw [hp.length_eq]
  simp

theorem outG_small (g : List Int) (n : Nat) : (outG g n).length ≤ n ∧ ∀ p ∈ outG g n, p.length ≤ n := by
  unfold outG
  refine ⟨Nat.le_trans (List.length_filter_le _ _) (by simp), fun p hp => ?_⟩
  have hp := (List.mem_filter.1 hp).1
  rw [List.mem_map] at hp
  obtain ⟨c, _, rfl⟩ := hp
  unfold memG
  rw [List.length_map]
  exact Nat.le_trans (List.length_filter_le _ _) (by simp)

theorem mailThreaded_true (N : Nat) (x : List Int) (hN : 1048577 < N) : wrackkeep2_MailThreaded N x = some true := by
  obtain ⟨l, e1, hd⟩ := messages_ok N x hN
  have hf := hd.few
  have hc := hd.check hN
  obtain ⟨g, hg, ht⟩ := threads_ok N l hc (by omega) hN
  unfold wrackkeep2_MailThreaded
  rw [bindO_of e1, bindO_of ht, bindO_of (purge_ok N l hc (by omega) hN)]
  simp only
  obtain ⟨b1, b2⟩ := outG_small g l.length
  have hlen := outG_len hg
  rw [putAll N none _ _ l _ _ (outG g l.length) _ (by omega) hN (fun p hp => ⟨by have := b2 p hp; omega, fun y hy => by
    obtain ⟨i, _, rfl⟩ := outG_mem hp
    rw [memG_mem] at hy
    obtain ⟨j, hj, _, rfl⟩ := hy
    omega⟩) (outG_nodup g l.length) N (by omega)]
  simp only
  rw [sameAll N none _ _ l _ _ _ _ (by omega) hN (fun i k hi hk => by
    refine getM_same _ _ _ _ fun p hp => ?_
    obtain ⟨c, _, rfl⟩ := outG_mem hp
    have he := hg.edge i k hi hk
    have hkl := hk.1
    rw [memG_mem, memG_mem]
    constructor
    · rintro ⟨j, h1, h2, h3⟩
      have : i = j := by omega
      subst this
      exact ⟨k, hkl, by rw [← he]; exact h2, rfl⟩
    · rintro ⟨j, h1, h2, h3⟩
      have : k = j := by omega
      subst this
      exact ⟨i, hi, by rw [he]; exact h2, rfl⟩) N (by omega)]
  simp only
  have hpl : (pairsM (outG g l.length) 0).length = l.length := by
    have := congrArg List.length (pairsM_keys (outG g l.length) 0)
    rw [List.length_map, hlen] at this
    exact this
  rw [bindO_of (kmails_true N hN)]
  simp only [if_true, decide_true]
  rw [gate_pos (by rw [hpl, decide_eq_true_eq]; unfold MAXL; omega)]
  rw [if_pos (by rw [hpl]; simp)]
  have hll : (leftM l).length ≤ 60 := by
    unfold leftM
    exact Nat.le_trans (List.length_filter_le _ _) (by omega)
  rw [noneGone N _ (leftM l) hll hN (fun e he => by
    unfold leftM at he
    have := (List.mem_filter.1 he).2
    simpa using this)]
  rfl

end Go.Proofs.YtnklmlnkiepdiaaDoor
