/-
  PLAIN: trees of files: package fs and the reference's errors of a tree.
-/
import Derived.Test.YthkpfkjbflcpnaaDoorPuPaths
import Derived.Test.YthkpfkjbflcpnaaDoorPuEq
set_option linter.unusedVariables false
set_option linter.unusedSimpArgs false
namespace Go.Proofs.YthkpfkjbflcpnaaDoor
open Go Go.Ab

/-! ### the order of texts -/
theorem less_irrefl : ∀ a : List Int, strLess a a = false := by
  intro a
  induction a with
  | nil => rfl
  | cons x r ih => simp [strLess, ih]

theorem less_total : ∀ a b : List Int, strLess a b = false → strLess b a = true ∨ a = b := by
  intro a
  induction a with
  | nil => intro b; cases b <;> simp [strLess]
  | cons x r ih =>
    intro b
    cases b with
    | nil => simp [strLess]
    | cons y q =>
      simp only [strLess, Bool.or_eq_false_iff, decide_eq_false_iff_not, Bool.and_eq_false_imp, decide_eq_true_eq, Bool.or_eq_true, Bool.and_eq_true, List.cons.injEq]
      rintro ⟨h1, h2⟩
      by_cases h : x = y
      · subst h
        rcases ih q (h2 rfl) with h3 | h3
        · exact Or.inl (Or.inr ⟨rfl, h3⟩)
        · exact Or.inr ⟨rfl, h3⟩
      · exact Or.inl (Or.inl (by omega))

theorem less_trans : ∀ a b c : List Int, strLess a b = true → strLess b c = true → strLess a c = true := by
  intro a
  induction a with
  | nil =>
    intro b c h1 h2
    cases c with
    | nil => cases b <;> simp [strLess] at h2
    | cons z s => rfl
  | cons x r ih =>
    intro b c h1 h2
    cases b with
    | nil => simp [strLess] at h1
    | cons y q =>
      cases c with
      | nil => simp [strLess] at h2
      | cons z s =>
        simp only [strLess, Bool.or_eq_true, decide_eq_true_eq, Bool.and_eq_true] at h1 h2 ⊢
        rcases h1 with h1 | ⟨h1, h3⟩
        · rcases h2 with h2 | ⟨h2, _⟩
          · left; omega
          · left; omega
        · rcases h2 with h2 | ⟨h2, h4⟩
          · left; omega
          · exact Or.inr ⟨by omega, ih q s h3 h4⟩

theorem less_not (a b : List Int) : (!strLess a b) = (strLess b a || decide (b = a)) := by
  cases h : strLess a b with
  | false =>
    rcases less_total a b h with h1 | h1
    · simp [h1]
    · subst h1; simp
  | true =>
    have h1 : strLess b a = false := by
      cases h2 : strLess b a with
      | false => rfl
      | true => have := less_trans a b a h h2; rw [less_irrefl] at this; cases this
    have h2 : ¬ b = a := fun e => by subst e; rw [less_irrefl] at h; cases h
    simp [h1, h2]

/-! ### trees -/
abbrev Ent := List Int × Bool × Int × List Int


theorem clone_eq (N : Nat) (b : List Int) (hb : b.length ≤ 1048576) : slices_Clone_byte N b = some b := by
  unfold slices_Clone_byte
  rw [gate_pos (room_of (by simp; omega) (by simp; omega))]
  rfl

theorem cloneT_eq (N : Nat) (t : List Ent) (ht : t.length ≤ 1048576) : slices_Clone_api_Entry N t = some t := by
  unfold slices_Clone_api_Entry
  simp only
  rw [gate_pos (room_of (by simp; omega) (by simp; omega))]
  rfl

theorem getD_mem {t : List Ent} {i : Nat} (h : i < t.length) : t.getD i ([], (false, ((0 : Int), []))) ∈ t := by
  rw [List.getD_eq_getElem?_getD, List.getElem?_eq_getElem h]
  exact List.getElem_mem h

theorem get_eq (N : Nat) (t : List Ent) (path : List Int) (ht : t.length ≤ 1048576) (hd : ∀ e ∈ t, e.2.2.2.length ≤ 1048576) (hN : 1048577 < N) :
    (∃ i, i < t.length ∧ (∀ j, j < i → (t.getD j ([], (false, ((0 : Int), [])))).1 ≠ path) ∧ (t.getD i ([], (false, ((0 : Int), [])))).1 = path ∧ fs_Get N t path = some (t.getD i ([], (false, ((0 : Int), []))), true)) ∨
      ((∀ j, j < t.length → (t.getD j ([], (false, ((0 : Int), [])))).1 ≠ path) ∧ fs_Get N t path = some (([], (false, ((0 : Int), []))), false)) := by
  unfold fs_Get
  refine iter_rule (fun v => ∃ (i : Nat) (m1 : List Int) (m2 : Bool) (m3 : Int), v = ((i : Int), m1, m2, m3, ()) ∧ i ≤ t.length ∧ ∀ j, j < i → (t.getD j ([], (false, ((0 : Int), [])))).1 ≠ path) (fun v => t.length - v.1.toNat)
    (fun o => (∃ i, i < t.length ∧ (∀ j, j < i → (t.getD j ([], (false, ((0 : Int), [])))).1 ≠ path) ∧ (t.getD i ([], (false, ((0 : Int), [])))).1 = path ∧ o = some (t.getD i ([], (false, ((0 : Int), []))), true)) ∨ ((∀ j, j < t.length → (t.getD j ([], (false, ((0 : Int), [])))).1 ≠ path) ∧ o = some (([], (false, ((0 : Int), []))), false))) ?_ N _
    ⟨0, [], false, 0, rfl, Nat.zero_le _, fun j hj => absurd hj (Nat.not_lt_zero _)⟩ (by simp only; omega)
  rintro v again ⟨i, m1, m2, m3, rfl, hi, hall⟩ hag
  unfold fs_Get.s0
  simp only [decide_eq_true_eq]
  by_cases hlt : i < t.length
  · rw [if_pos (by omega), gate_pos (inR_of (by omega) (by omega)), getI_nat]
    by_cases h : (t.getD i ([], (false, ((0 : Int), [])))).1 = path
    · rw [if_pos h, bindO_of (clone_eq N _ (hd _ (getD_mem hlt)))]
      exact Or.inl ⟨i, hlt, hall, h, rfl⟩
    · rw [if_neg h, w64 (by omega) (by omega)]
      refine hag _ ⟨i + 1, m1, m2, m3, by simp, by omega, fun j hj => ?_⟩ (by simp only; omega)
      rcases Nat.lt_or_eq_of_le (Nat.le_of_lt_succ hj) with h1 | h1
      · exact hall j h1
      · subst h1; exact h
  · rw [if_neg (by omega)]
    exact Or.inr ⟨fun j hj => hall j (by omega), rfl⟩

/-! ### equal trees -/
theorem entEq_eq (N : Nat) (a b : Ent) (ha : a.2.2.2.length ≤ 1048576) (hN : 1048577 < N) : fs_equal N a b = some (decide (a = b)) := by
  obtain ⟨a1, a2, a3, a4⟩ := a
  obtain ⟨b1, b2, b3, b4⟩ := b
  unfold fs_equal
  simp only [decide_eq_true_eq, beq_iff_eq]
  have ha : a4.length ≤ 1048576 := ha
  by_cases h1 : a1 = b1
  · rw [if_pos h1]
    by_cases h2 : a2 = b2
    · rw [if_pos h2]
      by_cases h3 : a3 = b3
      · rw [if_pos h3, bindO_of (equal_eq N a4 b4 (by omega) (by omega))]
        simp [bindO, h1, h2, h3]
      · rw [if_neg h3]; simp [bindO, h3]
    · rw [if_neg h2]; simp [bindO, h2]
  · rw [if_neg h1]; simp [bindO, h1]

theorem same_eq (N : Nat) (a b : List Ent) (ha : a.length ≤ 1048576) (hd : ∀ e ∈ a, e.2.2.2.length ≤ 1048576) (hN : 1048577 < N) : fs_Same N a b = some (decide (a = b)) := by
  unfold fs_Same
  simp only [Bool.not_eq_true', decide_eq_false_iff_not]
  by_cases hl : a.length = b.length
  · rw [if_neg (by omega)]
    refine iter_rule (fun v => ∃ i : Nat, v = ((i : Int), ()) ∧ i ≤ a.length ∧ ∀ j, j < i → a.getD j ([], (false, ((0 : Int), []))) = b.getD j ([], (false, ((0 : Int), [])))) (fun v => a.length - v.1.toNat)
      (fun o => o = some (decide (a = b))) ?_ N _ ⟨0, rfl, Nat.zero_le _, fun j hj => absurd hj (Nat.not_lt_zero _)⟩ (by simp only; omega)
    rintro v again ⟨i, rfl, hi, hall⟩ hag
    unfold fs_Same_i0_slices_EqualFunc.s0
    simp only [decide_eq_true_eq]
    by_cases hlt : i < a.length
    · rw [if_pos (by omega), gate_pos (inR_of (by omega) (by omega)), getI_nat, gate_pos (inR_of (by omega) (by omega)), getI_nat, bindO_of (entEq_eq N _ _ (hd _ (getD_mem hlt)) hN)]
      by_cases h : a.getD i ([], (false, ((0 : Int), []))) = b.getD i ([], (false, ((0 : Int), [])))
      · rw [if_neg (by simpa using h), w64 (by omega) (by omega)]
        refine hag _ ⟨i + 1, by simp, by omega, fun j hj => ?_⟩ (by simp only; omega)
        rcases Nat.lt_or_eq_of_le (Nat.le_of_lt_succ hj) with h1 | h1
        · exact hall j h1
        · subst h1; exact h
      · rw [if_pos (by simpa using h)]
        simp only [Option.some.injEq, Bool.false_eq, decide_eq_false_iff_not]
        exact fun e => h (by rw [e])
    · rw [if_neg (by omega)]
      have : a = b := List.ext_getElem hl fun j h1 h2 => by
        have := hall j (by omega)
        rw [List.getD_eq_getElem?_getD, List.getElem?_eq_getElem h1, List.getD_eq_getElem?_getD, List.getElem?_eq_getElem h2] at this
        exact this
      simp [this]
  · rw [if_pos (by omega)]
    simp only [Option.some.injEq, Bool.false_eq, decide_eq_false_iff_not]
    exact fun e => hl (by rw [e])

theorem equalT_eq (N : Nat) (a b : List Ent) (ha : a.length ≤ 1048576) (hN : 1048577 < N) : wrackref2_Equal N a b = some (decide (a = b)) := by
  unfold wrackref2_Equal
  simp only [Bool.not_eq_true', decide_eq_false_iff_not]
  by_cases hl : a.length = b.length
  · rw [if_neg (by omega)]
    refine iter_rule (fun v => ∃ i : Nat, v = ((i : Int), ()) ∧ i ≤ a.length ∧ ∀ j, j < i → a.getD j ([], (false, ((0 : Int), []))) = b.getD j ([], (false, ((0 : Int), [])))) (fun v => a.length - v.1.toNat)
      (fun o => o = some (decide (a = b))) ?_ N _ ⟨0, rfl, Nat.zero_le _, fun j hj => absurd hj (Nat.not_lt_zero _)⟩ (by simp only; omega)
    rintro v again ⟨i, rfl, hi, hall⟩ hag
    unfold wrackref2_Equal.s0
    simp only [decide_eq_true_eq]
    by_cases hlt : i < a.length
    · rw [if_pos (by omega)]
      have g1 : inR (i : Int) (a.length : Int) = true := inR_of (by omega) (by omega)
      have g2 : inR (i : Int) (b.length : Int) = true := inR_of (by omega) (by omega)
      simp only [gate_pos g1, gate_pos g2, getI_nat]
      generalize hx : a.getD i ([], (false, ((0 : Int), []))) = x
      generalize hy : b.getD i ([], (false, ((0 : Int), []))) = y
      obtain ⟨a1, a2, a3, a4⟩ := x
      obtain ⟨b1, b2, b3, b4⟩ := y
      have body : (if (!decide (a1 = b1)) = true then some true else if (!(a2 == b2)) = true then some true else if (!decide (a3 = b3)) = true then some true else some (!decide (a4 = b4)) : Option Bool) = some (!decide ((a1, a2, a3, a4) = ((b1, b2, b3, b4) : Ent))) := by
        by_cases h1 : a1 = b1
        · by_cases h2 : a2 = b2
          · by_cases h3 : a3 = b3
            · simp [h1, h2, h3]
            · simp [h1, h2, h3]
          · simp [h1, h2]
        · simp [h1]
      simp only [body, bindO]
      by_cases h : (a1, a2, a3, a4) = ((b1, b2, b3, b4) : Ent)
      · rw [if_neg (by simpa using h), w64 (by omega) (by omega)]
        refine hag _ ⟨i + 1, by simp, by omega, fun j hj => ?_⟩ (by simp only; omega)
        rcases Nat.lt_or_eq_of_le (Nat.le_of_lt_succ hj) with h1 | h1
        · exact hall j h1
        · subst h1; rw [hx, hy]; exact h
      · rw [if_pos (by rw [decide_eq_false h]; rfl)]
        simp only [Option.some.injEq, Bool.false_eq, decide_eq_false_iff_not]
        exact fun e => h (by rw [← hx, ← hy, e])
    · rw [if_neg (by omega)]
      have : a = b := List.ext_getElem hl fun j h1 h2 => by
        have := hall j (by omega)
        rw [List.getD_eq_getElem?_getD, List.getElem?_eq_getElem h1, List.getD_eq_getElem?_getD, List.getElem?_eq_getElem h2] at this
        exact this
      simp [this]
  · rw [if_pos (by omega)]
    simp only [Option.some.injEq, Bool.false_eq, decide_eq_false_iff_not]
    exact fun e => hl (by rw [e])

theorem copy_eq (N : Nat) (t : List Ent) (ht : t.length ≤ 1048576) (hd : ∀ e ∈ t, e.2.2.2.length ≤ 1048576) (hN : 1048577 < N) : fs_Copy N t = some t := by
  unfold fs_Copy
  rw [bindO_of (cloneT_eq N t ht)]
  refine iter_rule (fun v => ∃ i : Nat, v = (t, (i : Int), ()) ∧ i ≤ t.length) (fun v => t.length - v.2.1.toNat)
    (fun o => o = some t) ?_ N _ ⟨0, rfl, Nat.zero_le _⟩ (by simp only; omega)
  rintro v again ⟨i, rfl, hi⟩ hag
  unfold fs_Copy.s0
  simp only [decide_eq_true_eq]
  by_cases hlt : i < t.length
  · have g1 : inR (i : Int) (t.length : Int) = true := inR_of (by omega) (by omega)
    rw [if_pos (by omega)]
    simp only [gate_pos g1, getI_nat]
    rw [bindO_of (clone_eq N _ (hd _ (getD_mem hlt))), w64 (by omega) (by omega)]
    have : t.set (i : Int).toNat ((t.getD i ([], (false, ((0 : Int), [])))).1, ((t.getD i ([], (false, ((0 : Int), [])))).2.1, ((t.getD i ([], (false, ((0 : Int), [])))).2.2.1, (t.getD i ([], (false, ((0 : Int), [])))).2.2.2))) = t := by
      show t.set i (t.getD i ([], (false, ((0 : Int), [])))) = t
      rw [List.getD_eq_getElem?_getD, List.getElem?_eq_getElem hlt]
      exact List.set_getElem_self hlt
    rw [this]
    exact hag _ ⟨i + 1, by simp, by omega⟩ (by simp only; omega)
  · rw [if_neg (by omega)]

/-! ### the first error of a tree -/
def oneE (e : Ent) : Int :=
  if pathB e.1 = true then (if e.2.2.1 < 0 ∨ 4294967295 < e.2.2.1 then 21 else if 2048 < e.2.2.2.length then 2 else if e.2.1 = true ∧ 0 < e.2.2.2.length then 3 else 0) else 6

def findE (t : List Ent) (d : List Int) : Option Ent := t.find? fun e => decide (e.1 = d)

def dirE (t : List Ent) (i : Nat) : Int :=
  if dirI (t.getD i ([], (false, ((0 : Int), [])))).1 = [] then 0 else match findE (t.take i) (dirI (t.getD i ([], (false, ((0 : Int), [])))).1) with
    | none => 8
    | some x => if x.2.1 = true then 0 else 12

def errAt (t : List Ent) (i : Nat) : Int :=
  if oneE (t.getD i ([], (false, ((0 : Int), [])))) = 0 then (if 0 < i ∧ strLess (t.getD (i - 1) ([], (false, ((0 : Int), [])))).1 (t.getD i ([], (false, ((0 : Int), [])))).1 = false then 11 else dirE t i) else oneE (t.getD i ([], (false, ((0 : Int), []))))

/-- what is reported of a tree -/
def ResT (t : List Ent) (r : Int) : Prop :=
  (40 < t.length ∧ r = 9) ∨ (t.length ≤ 40 ∧ ((∃ i, i < t.length ∧ (∀ j, j < i → errAt t j = 0) ∧ errAt t i ≠ 0 ∧ r = errAt t i) ∨ ((∀ j, j < t.length → errAt t j = 0) ∧ r = 0)))

theorem resT_unique {t : List Ent} {r q : Int} (h1 : ResT t r) (h2 : ResT t q) : r = q := by
  rcases h1 with ⟨a1, a2⟩ | ⟨a1, a2⟩
  · rcases h2 with ⟨b1, b2⟩ | ⟨b1, b2⟩
    · rw [a2, b2]
    · omega
  · rcases h2 with ⟨b1, b2⟩ | ⟨b1, b2⟩
    · omega
    · rcases a2 with ⟨i, i1, i2, i3, i4⟩ | ⟨i1, i2⟩
      · rcases b2 with ⟨k, k1, k2, k3, k4⟩ | ⟨k1, k2⟩
        · have : i = k := by
            rcases Nat.lt_trichotomy i k with h | h | h
            · exact absurd (k2 i h) i3
            · exact h
            · exact absurd (i2 k h) k3
          subst this
          rw [i4, k4]
        · exact absurd (k1 i i1) i3
      · rcases b2 with ⟨k, k1, k2, k3, k4⟩ | ⟨k1, k2⟩
        · exact absurd (i1 k k1) k3
        · rw [i2, k2]

theorem one_eq (N : Nat) (e : Ent) (he : e.1.length ≤ 1048576) (hN : 1048577 < N) : fs_one N e = some (oneE e) := by
  obtain ⟨p, d, m, b⟩ := e
  unfold fs_one oneE
  rw [bindO_of (path_eq N _ he hN)]
  simp only [Bool.not_eq_true', decide_eq_false_iff_not, decide_eq_true_eq]
  by_cases hp : pathB p = true
  · rw [if_pos hp, if_neg (by simp), if_pos hp]
    by_cases hm : m < 0 ∨ 4294967295 < m
    · rw [if_pos hm]
      have : (if m < 0 then some true else some (decide (m > 4294967295)) : Option Bool) = some true := by
        by_cases h : m < 0
        · rw [if_pos h]
        · rw [if_neg h]; simp; omega
      rw [this]; rfl
    · rw [if_neg hm]
      have : (if m < 0 then some true else some (decide (m > 4294967295)) : Option Bool) = some false := by
        rw [if_neg (by omega)]; simp; omega
      rw [this]
      simp only [bindO, Bool.false_eq_true, if_false]
      by_cases hb : 2048 < b.length
      · rw [if_pos (by omega), if_pos hb]
      · rw [if_neg (by omega), if_neg hb]
        cases d with
        | false => simp [bindO]
        | true =>
          simp only [if_true, bindO, decide_eq_true_eq, true_and]
          by_cases h0 : 0 < b.length
          · rw [if_pos (by omega), if_pos h0]
          · rw [if_neg (by omega), if_neg h0]
  · rw [if_neg hp, if_pos (by decide), if_neg hp]

/-- the search for a directory -/
theorem dirLoop {R : Type} (N : Nat) (s : R) (k0 : (List Int × Bool × Int × List Int × List Int × Unit) → R) (kr : (List Int × Bool × Int × List Int × List Int × Int × Unit) → R) (t : List Ent) (a1 : List Int) (a2 : Bool) (a3 : Int) (a4 d : List Int)
    (ht : t.length ≤ 1048576) (Q : R → Prop) (h0 : findE t d = none → Q (k0 (a1, a2, a3, a4, d, ())))
    (h1 : ∀ i, i < t.length → findE t d = some (t.getD i ([], (false, ((0 : Int), [])))) → Q (kr (a1, a2, a3, a4, d, (i : Int), ()))) (n : Nat) (hn : t.length < n) :
    Q (iter (fs_Check_i0_slices_IndexFunc.s0 N s k0 kr (t, (t.length : Int), ())) s n (a1, a2, a3, a4, d, (0 : Int), ())) := by
  refine iter_rule (fun v => ∃ i : Nat, v = (a1, a2, a3, a4, d, (i : Int), ()) ∧ i ≤ t.length ∧ ∀ j, j < i → (t.getD j ([], (false, ((0 : Int), [])))).1 ≠ d) (fun v => t.length - v.2.2.2.2.2.1.toNat) Q ?_ n _ ⟨0, rfl, Nat.zero_le _, fun j hj => absurd hj (Nat.not_lt_zero _)⟩ (by simp only; omega)
  rintro v again ⟨i, rfl, hi, hall⟩ hag
  unfold fs_Check_i0_slices_IndexFunc.s0
  simp only [decide_eq_true_eq]
  by_cases hlt : i < t.length
  · rw [if_pos (by omega), gate_pos (inR_of (by omega) (by omega)), getI_nat]
    by_cases h : (t.getD i ([], (false, ((0 : Int), [])))).1 = d
    · rw [if_pos h]
      refine h1 i hlt ?_
      unfold findE
      rw [List.find?_eq_some_iff_getElem]
      refine ⟨by simpa using h, i, hlt, ?_, fun j hj => ?_⟩
      · rw [List.getD_eq_getElem?_getD, List.getElem?_eq_getElem hlt]; rfl
      · have := hall j hj
        rw [List.getD_eq_getElem?_getD, List.getElem?_eq_getElem (by omega)] at this
        simpa using this
    · rw [if_neg h, w64 (by omega) (by omega)]
      refine hag _ ⟨i + 1, by simp, by omega, fun j hj => ?_⟩ (by simp only; omega)
      rcases Nat.lt_or_eq_of_le (Nat.le_of_lt_succ hj) with h2 | h2
      · exact hall j h2
      · subst h2; exact h
  · rw [if_neg (by omega)]
    refine h0 ?_
    unfold findE
    rw [List.find?_eq_none]
    intro e he
    obtain ⟨j, hj, rfl⟩ := List.getElem_of_mem he
    have := hall j (by omega)
    rw [List.getD_eq_getElem?_getD, List.getElem?_eq_getElem hj] at this
    simpa using this

theorem cut_take (t : List Ent) (i : Nat) : cut t (0 : Int) (i : Int) = t.take i := by
  have := cut_nat t 0 i (Nat.zero_le _)
  simpa using this

theorem check_res (N : Nat) (t : List Ent) (hp : ∀ e ∈ t, e.1.length ≤ 1048576) (hN : 1048577 < N) : ∃ r, fs_Check N t = some r ∧ ResT t r := by
  unfold fs_Check
  simp only [decide_eq_true_eq]
  by_cases h40 : 40 < t.length
  · rw [if_pos (by omega)]
    exact ⟨9, rfl, Or.inl ⟨h40, rfl⟩⟩
  · rw [if_neg (by omega)]
    refine iter_rule (fun v => ∃ i : Nat, v = ((i : Int), ()) ∧ i ≤ t.length ∧ ∀ j, j < i → errAt t j = 0) (fun v => t.length - v.1.toNat)
      (fun o => ∃ r, o = some r ∧ ResT t r) ?_ N _ ⟨0, rfl, Nat.zero_le _, fun j hj => absurd hj (Nat.not_lt_zero _)⟩ (by simp only; omega)
    rintro v again ⟨i, rfl, hi, hall⟩ hag
    unfold fs_Check.s0
    simp only [decide_eq_true_eq]
    by_cases hlt : i < t.length
    · have stop : ∀ r : Int, errAt t i = r → r ≠ 0 → ∃ q, (some r : Option Int) = some q ∧ ResT t q := fun r h1 h2 => ⟨r, rfl, Or.inr ⟨by omega, Or.inl ⟨i, hlt, hall, by rw [h1]; exact h2, h1.symm⟩⟩⟩
      have go : errAt t i = 0 → ∃ q, again ((i : Int) + 1, ()) = some q ∧ ResT t q := fun h => hag _ ⟨i + 1, by simp, by omega, fun j hj => by
        rcases Nat.lt_or_eq_of_le (Nat.le_of_lt_succ hj) with h2 | h2
        · exact hall j h2
        · subst h2; exact h⟩ (by simp only; omega)
      rw [if_pos (by omega), gate_pos (inR_of (by omega) (by omega)), getI_nat, bindO_of (one_eq N _ (hp _ (getD_mem hlt)) hN)]
      by_cases h1 : oneE (t.getD i ([], (false, ((0 : Int), [])))) = 0
      · rw [if_neg (by simpa using h1)]
        have hcond : (if (i : Int) > 0 then gate (inR (IntKind.wrap .i64 ((i : Int) - 1)) (t.length : Int)) (some (!strLess (getI ([], (false, ((0 : Int), []))) t (IntKind.wrap .i64 ((i : Int) - 1))).1 (t.getD i ([], (false, ((0 : Int), [])))).1)) none else some false : Option Bool) =
            some (decide (0 < i ∧ strLess (t.getD (i - 1) ([], (false, ((0 : Int), [])))).1 (t.getD i ([], (false, ((0 : Int), [])))).1 = false)) := by
          by_cases h0 : 0 < i
          · rw [if_pos (by omega), w64 (by omega) (by omega), gate_pos (inR_of (by omega) (by omega))]
            have e : (i : Int) - 1 = ((i - 1 : Nat) : Int) := by omega
            rw [e, getI_nat]
            cases strLess (t.getD (i - 1) ([], (false, ((0 : Int), [])))).1 (t.getD i ([], (false, ((0 : Int), [])))).1 <;> simp [h0]
          · rw [if_neg (by omega)]
            simp [h0]
        rw [bindO_of hcond]
        by_cases h2 : 0 < i ∧ strLess (t.getD (i - 1) ([], (false, ((0 : Int), [])))).1 (t.getD i ([], (false, ((0 : Int), [])))).1 = false
        · rw [if_pos (by simpa using h2)]
          exact stop 11 (by unfold errAt; rw [if_pos h1, if_pos h2]) (by decide)
        · rw [if_neg (by simpa using h2), bindO_of (dir_eq N _ (hp _ (getD_mem hlt)) hN)]
          have hE : errAt t i = dirE t i := by unfold errAt; rw [if_pos h1, if_neg h2]
          by_cases hd : dirI (t.getD i ([], (false, ((0 : Int), [])))).1 = []
          · rw [if_neg (by simpa using hd), w64 (by omega) (by omega)]
            exact go (by rw [hE]; unfold dirE; rw [if_pos hd])
          · rw [if_pos (by simpa using hd), gate_pos (bounds_of (by omega) (by omega) (by omega)), cut_take]
            refine dirLoop N none _ _ (t.take i) _ _ _ _ _ (by rw [List.length_take]; omega) (fun o => ∃ q, o = some q ∧ ResT t q) (fun hnone => ?_) (fun k hk hsome => ?_) N (by rw [List.length_take]; omega)
            · rw [if_pos (by decide)]
              exact stop 8 (by rw [hE]; unfold dirE; rw [if_neg hd, hnone]) (by decide)
            · rw [List.length_take] at hk
              have hke : (t.take i).getD k ([], (false, ((0 : Int), []))) = t.getD k ([], (false, ((0 : Int), []))) := by
                rw [List.getD_eq_getElem?_getD, List.getD_eq_getElem?_getD, List.getElem?_take_of_lt (by omega)]
              rw [hke] at hsome
              simp only
              rw [if_neg (by omega), gate_pos (inR_of (by omega) (by omega)), getI_nat]
              cases hx : (t.getD k ([], (false, ((0 : Int), [])))).2.1 with
              | true =>
                rw [if_neg (by decide), w64 (by omega) (by omega)]
                exact go (by rw [hE]; unfold dirE; rw [if_neg hd, hsome]; simp only; rw [if_pos hx])
              | false =>
                rw [if_pos (by decide)]
                exact stop 12 (by rw [hE]; unfold dirE; rw [if_neg hd, hsome]; simp only; rw [if_neg (by rw [hx]; decide)]) (by decide)
      · rw [if_pos (by simpa using h1)]
        exact stop _ (by unfold errAt; rw [if_neg h1]) h1
    · rw [if_neg (by omega)]
      exact ⟨0, rfl, Or.inr ⟨by omega, Or.inr ⟨fun j hj => hall j (by omega), rfl⟩⟩⟩

/-! ### the reference: a map of what is a directory -/
theorem mapGet_put {v : Ty} (z : List Int) : ∀ (m : List (List Int × v.den)) (x : List Int) (y : v.den), mapGet (k := .str) (v := v) (mapPut (k := .str) (v := v) m x y) z = if z = x then some y else mapGet (k := .str) (v := v) m z := by
  intro m x y
  induction m with
  | nil =>
    simp only [mapPut, mapGet, keyEq, decide_eq_true_eq]
  | cons e r ih =>
    simp only [mapPut, keyEq, decide_eq_true_eq]
    by_cases h : x = e.1
    · rw [if_pos h]
      simp only [mapGet, keyEq, decide_eq_true_eq]
      by_cases h2 : z = x
      · rw [if_pos h2, if_pos h2]
      · rw [if_neg h2, if_neg h2, if_neg (by rw [← h]; exact h2)]
    · rw [if_neg h]
      simp only [mapGet, keyEq, decide_eq_true_eq]
      by_cases h2 : z = e.1
      · rw [if_pos h2, if_pos h2, if_neg (fun e2 => h (by rw [← e2, h2]))]
      · rw [if_neg h2, if_neg h2, ih]

theorem findE_snoc (t : List Ent) (i : Nat) (hi : i < t.length) (d : List Int) : findE (t.take (i + 1)) d = (findE (t.take i) d).or (if (t.getD i ([], (false, ((0 : Int), [])))).1 = d then some (t.getD i ([], (false, ((0 : Int), [])))) else none) := by
  unfold findE
  rw [List.take_add_one, List.find?_append, List.getElem?_eq_getElem hi, List.getD_eq_getElem?_getD, List.getElem?_eq_getElem hi]
  simp only [Option.toList_some, Option.getD_some, List.find?_cons, List.find?_nil]
  congr 1
  by_cases h : t[i].1 = d
  · simp [h]
  · simp [h]

theorem errAt_zero {t : List Ent} {i : Nat} (h : errAt t i = 0) : oneE (t.getD i ([], (false, ((0 : Int), [])))) = 0 ∧ (0 < i → strLess (t.getD (i - 1) ([], (false, ((0 : Int), [])))).1 (t.getD i ([], (false, ((0 : Int), [])))).1 = true) ∧ dirE t i = 0 := by
  unfold errAt at h
  by_cases h1 : oneE (t.getD i ([], (false, ((0 : Int), [])))) = 0
  · rw [if_pos h1] at h
    by_cases h2 : 0 < i ∧ strLess (t.getD (i - 1) ([], (false, ((0 : Int), [])))).1 (t.getD i ([], (false, ((0 : Int), [])))).1 = false
    · rw [if_pos h2] at h; exact absurd h (by decide)
    · rw [if_neg h2] at h
      refine ⟨h1, fun h0 => ?_, h⟩
      cases h3 : strLess (t.getD (i - 1) ([], (false, ((0 : Int), [])))).1 (t.getD i ([], (false, ((0 : Int), [])))).1 with
      | true => rfl
      | false => exact absurd ⟨h0, h3⟩ h2
  · rw [if_neg h1] at h
    exact absurd h h1

theorem rising {t : List Ent} {i : Nat} (h : ∀ j, j < i → errAt t j = 0) (hi : 0 < i → strLess (t.getD (i - 1) ([], (false, ((0 : Int), [])))).1 (t.getD i ([], (false, ((0 : Int), [])))).1 = true) : ∀ j, j < i → strLess (t.getD j ([], (false, ((0 : Int), [])))).1 (t.getD i ([], (false, ((0 : Int), [])))).1 = true := by
  have key : ∀ n j, j + n + 1 = i → strLess (t.getD j ([], (false, ((0 : Int), [])))).1 (t.getD i ([], (false, ((0 : Int), [])))).1 = true := by
    intro n
    induction n with
    | zero =>
      intro j hj
      have := hi (by omega)
      have e : i - 1 = j := by omega
      rw [e] at this
      exact this
    | succ n ih =>
      intro j hj
      have h1 := (errAt_zero (h (j + 1) (by omega))).2.1 (by omega)
      exact less_trans _ _ _ h1 (ih (j + 1) (by omega))
  intro j hj
  exact key (i - j - 1) j (by omega)

theorem time_if (m : Int) : (if m < 0 then some true else some (decide (m ≥ 4294967296)) : Option Bool) = some (decide (m < 0 ∨ 4294967295 < m)) := by
  by_cases h : m < 0
  · rw [if_pos h, decide_eq_true (Or.inl h)]
  · rw [if_neg h]
    congr 1
    rw [decide_eq_decide]
    omega
theorem form_if (d : Bool) (n : Nat) : (if (n : Int) > 0 then some d else some false : Option Bool) = some (decide (d = true ∧ 0 < n)) := by
  by_cases h : 0 < n
  · rw [if_pos (by omega)]
    cases d <;> simp [h]
  · rw [if_neg (by omega)]
    simp [h]
theorem treeErr_res (N : Nat) (t : List Ent) (hp : ∀ e ∈ t, e.1.length ≤ 1048576) (hN : 1048577 < N) : ∃ r, wrackref2_TreeErr N t = some r ∧ ResT t r := by
  unfold wrackref2_TreeErr
  simp only [decide_eq_true_eq]
  by_cases h40 : 40 < t.length
  · rw [if_pos (by omega)]
    exact ⟨9, rfl, Or.inl ⟨h40, rfl⟩⟩
  · rw [if_neg (by omega)]
    refine iter_rule (fun v => ∃ (dirs : List (List Int × Bool)) (last : List Int) (i : Nat), v = (dirs, last, (i : Int), ()) ∧ i ≤ t.length ∧ (∀ j, j < i → errAt t j = 0) ∧ (0 < i → last = (t.getD (i - 1) ([], (false, ((0 : Int), [])))).1) ∧
        ∀ d, mapGet (k := .str) (v := .bool) dirs d = (findE (t.take i) d).map (·.2.1)) (fun v => t.length - v.2.2.1.toNat)
      (fun o => ∃ r, o = some r ∧ ResT t r) ?_ N _ ⟨[], [], 0, rfl, Nat.zero_le _, fun j hj => absurd hj (Nat.not_lt_zero _), fun h => absurd h (Nat.lt_irrefl _), fun d => rfl⟩ (by simp only; omega)
    rintro v again ⟨dirs, last, i, rfl, hi, hall, hlast, hmap⟩ hag
    unfold wrackref2_TreeErr.s0
    simp only [decide_eq_true_eq]
    by_cases hlt : i < t.length
    · have stop : ∀ r : Int, errAt t i = r → r ≠ 0 → ∃ q, (some r : Option Int) = some q ∧ ResT t q := fun r h1 h2 => ⟨r, rfl, Or.inr ⟨by omega, Or.inl ⟨i, hlt, hall, by rw [h1]; exact h2, h1.symm⟩⟩⟩
      have go : errAt t i = 0 → ∃ q, again (mapPut (k := .str) (v := .bool) dirs (t.getD i ([], (false, ((0 : Int), [])))).1 (t.getD i ([], (false, ((0 : Int), [])))).2.1, (t.getD i ([], (false, ((0 : Int), [])))).1, (i : Int) + 1, ()) = some q ∧ ResT t q := fun h => hag _ ⟨_, _, i + 1, rfl, by omega, fun j hj => by
          rcases Nat.lt_or_eq_of_le (Nat.le_of_lt_succ hj) with h2 | h2
          · exact hall j h2
          · subst h2; exact h, fun _ => by simp only [Nat.add_sub_cancel], fun d => by
          rw [mapGet_put, findE_snoc t i hlt, hmap]
          by_cases hd : d = (t.getD i ([], (false, ((0 : Int), [])))).1
          · rw [if_pos hd, if_pos hd.symm]
            have : findE (t.take i) d = none := by
              unfold findE
              rw [List.find?_eq_none]
              intro e he hde
              obtain ⟨j, hj, rfl⟩ := List.getElem_of_mem he
              rw [List.length_take] at hj
              have h3 := rising hall (errAt_zero h).2.1 j (by omega)
              rw [List.getElem_take] at hde
              simp only [decide_eq_true_eq] at hde
              rw [List.getD_eq_getElem?_getD, List.getElem?_eq_getElem (by omega)] at h3
              simp only [Option.getD_some] at h3
              rw [hde, hd, less_irrefl] at h3
              cases h3
            rw [this]; rfl
          · rw [if_neg hd, if_neg (fun e => hd e.symm), Option.or_none]⟩ (by simp only; omega)
      have hw := hp _ (getD_mem hlt)
      rw [if_pos (by omega), gate_pos (inR_of (by omega) (by omega)), getI_nat, bindO_of (way_eq N _ hw hN)]
      by_cases hpb : pathB (t.getD i ([], (false, ((0 : Int), [])))).1 = true
      · rw [if_neg (by rw [hpb]; decide)]
        rw [bindO_of (time_if _)]
        by_cases hm : (t.getD i ([], (false, ((0 : Int), [])))).2.2.1 < 0 ∨ 4294967295 < (t.getD i ([], (false, ((0 : Int), [])))).2.2.1
        · rw [if_pos (decide_eq_true hm)]
          exact stop 21 (by unfold errAt oneE; rw [if_pos hpb, if_pos hm, if_neg (by decide)]) (by decide)
        · rw [if_neg (by rw [decide_eq_false hm]; decide)]
          by_cases hb : 2048 < (t.getD i ([], (false, ((0 : Int), [])))).2.2.2.length
          · rw [if_pos (by omega)]
            exact stop 2 (by unfold errAt oneE; rw [if_pos hpb, if_neg hm, if_pos hb, if_neg (by decide)]) (by decide)
          · rw [if_neg (by omega)]
            rw [bindO_of (form_if _ _)]
            by_cases hf : (t.getD i ([], (false, ((0 : Int), [])))).2.1 = true ∧ 0 < (t.getD i ([], (false, ((0 : Int), [])))).2.2.2.length
            · rw [if_pos (decide_eq_true hf)]
              exact stop 3 (by unfold errAt oneE; rw [if_pos hpb, if_neg hm, if_neg hb, if_pos hf, if_neg (by decide)]) (by decide)
            · rw [if_neg (by rw [decide_eq_false hf]; decide)]
              have h1 : oneE (t.getD i ([], (false, ((0 : Int), [])))) = 0 := by unfold oneE; rw [if_pos hpb, if_neg hm, if_neg hb, if_neg hf]
              have h4 : (if (i : Int) > 0 then some (strLess (t.getD i ([], (false, ((0 : Int), [])))).1 last || decide ((t.getD i ([], (false, ((0 : Int), [])))).1 = last)) else some false : Option Bool) = some (decide (0 < i ∧ strLess (t.getD (i - 1) ([], (false, ((0 : Int), [])))).1 (t.getD i ([], (false, ((0 : Int), [])))).1 = false)) := by
                by_cases h0 : 0 < i
                · rw [if_pos (by omega), hlast h0, ← less_not]
                  cases strLess (t.getD (i - 1) ([], (false, ((0 : Int), [])))).1 (t.getD i ([], (false, ((0 : Int), [])))).1 <;> simp [h0]
                · rw [if_neg (by omega)]; simp [h0]
              rw [bindO_of h4]
              by_cases h2 : 0 < i ∧ strLess (t.getD (i - 1) ([], (false, ((0 : Int), [])))).1 (t.getD i ([], (false, ((0 : Int), [])))).1 = false
              · rw [if_pos (by simpa using h2)]
                exact stop 11 (by unfold errAt; rw [if_pos h1, if_pos h2]) (by decide)
              · rw [if_neg (by simpa using h2), bindO_of (above_eq N _ hw)]
                have hE : errAt t i = dirE t i := by unfold errAt; rw [if_pos h1, if_neg h2]
                by_cases hd : dirI (t.getD i ([], (false, ((0 : Int), [])))).1 = []
                · rw [if_neg (by simpa using hd), w64 (by omega) (by omega)]
                  exact go (by rw [hE]; unfold dirE; rw [if_pos hd])
                · rw [if_pos (by simpa using hd), hmap]
                  cases hfe : findE (t.take i) (dirI (t.getD i ([], (false, ((0 : Int), [])))).1) with
                  | none =>
                    rw [if_pos (by rfl)]
                    exact stop 8 (by rw [hE]; unfold dirE; rw [if_neg hd, hfe]) (by decide)
                  | some x =>
                    rw [if_neg (by simp)]
                    have hgd : ((Option.map (fun (x : Ent) => x.2.1) (some x)).getD false : Bool) = x.2.1 := rfl
                    rcases Bool.eq_false_or_eq_true x.2.1 with hx | hx
                    · rw [if_neg (by show ¬ (!(x.2.1 : Bool)) = true; rw [hx]; decide), w64 (by omega) (by omega)]
                      exact go (by rw [hE]; unfold dirE; rw [if_neg hd, hfe]; simp only; rw [if_pos hx])
                    · rw [if_pos (by show (!(x.2.1 : Bool)) = true; rw [hx]; rfl)]
                      exact stop 12 (by rw [hE]; unfold dirE; rw [if_neg hd, hfe]; simp only; rw [if_neg (by rw [hx]; decide)]) (by decide)
      · rw [if_pos (by simpa using hpb)]
        exact stop 6 (by unfold errAt oneE; rw [if_neg hpb, if_neg (by decide)]) (by decide)
    · rw [if_neg (by omega)]
      exact ⟨0, rfl, Or.inr ⟨by omega, Or.inr ⟨fun j hj => hall j (by omega), rfl⟩⟩⟩

/-- both report the same -/
theorem check_same (N : Nat) (t : List Ent) (hp : ∀ e ∈ t, e.1.length ≤ 1048576) (hN : 1048577 < N) : ∃ r, fs_Check N t = some r ∧ wrackref2_TreeErr N t = some r := by
  obtain ⟨r, h1, h2⟩ := check_res N t hp hN
  obtain ⟨q, h3, h4⟩ := treeErr_res N t hp hN
  have := resT_unique h2 h4
  subst this
  exact ⟨r, h1, h3⟩

end Go.Proofs.YthkpfkjbflcpnaaDoor
