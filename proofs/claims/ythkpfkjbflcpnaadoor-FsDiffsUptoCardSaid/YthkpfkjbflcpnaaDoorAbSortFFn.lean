/-
  WHAT slices.SortFunc MAKES of elements that its order tells apart.
-/
import Derived.Test.YthkpfkjbflcpnaaDoorAbDen
set_option linter.unusedVariables false
set_option linter.unusedSimpArgs false
namespace Go.Ab

/-- of any two one is less -/
def apartB {α : Type} (lt : α → α → Bool) : List α → Bool
  | [] => true
  | x :: r => r.all (fun y => lt x y || lt y x) && apartB lt r
def sortBy {α : Type} (lt : α → α → Bool) (xs : List α) : List α := xs.mergeSort fun x y => !lt y x

/-- the order of the data -/
structure LtOK {α : Type} (lt : α → α → Bool) : Prop where
  irrefl : ∀ x, lt x x = false
  trans : ∀ x y z, lt x y = true → lt y z = true → lt x z = true
  ntrans : ∀ x y z, lt x y = false → lt y z = false → lt x z = false

theorem apart_pair {α : Type} {lt : α → α → Bool} : ∀ {xs : List α}, apartB lt xs = true → xs.Pairwise fun x y => lt x y = true ∨ lt y x = true
  | [], _ => List.Pairwise.nil
  | x :: r, h => by
    simp only [apartB, Bool.and_eq_true, List.all_eq_true, Bool.or_eq_true] at h
    exact List.Pairwise.cons h.1 (apart_pair h.2)

theorem sortBy_unique {α : Type} {lt : α → α → Bool} (hl : LtOK lt) {xs ys : List α} (ha : apartB lt xs = true) (hp : ys.Perm xs) (hs : ys.Pairwise fun x y => lt y x = false) : ys = sortBy lt xs := by
  have tr : ∀ a b c : α, (!lt b a) = true → (!lt c b) = true → (!lt c a) = true := fun a b c h1 h2 => by
    simp only [Bool.not_eq_true'] at *
    exact hl.ntrans _ _ _ h2 h1
  have tot : ∀ a b : α, ((!lt b a) || (!lt a b)) = true := fun a b => by
    cases h1 : lt b a with
    | false => rfl
    | true =>
      cases h2 : lt a b with
      | false => rfl
      | true => have := hl.trans _ _ _ h1 h2; rw [hl.irrefl] at this; cases this
  have hm := List.pairwise_mergeSort (le := fun x y => !lt y x) tr tot xs
  have hap := (apart_pair ha)
  refine List.Perm.eq_of_pairwise (le := fun x y => lt y x = false) (fun a b ha hb h1 h2 => ?_) hs (hm.imp fun h => by simpa using h) (hp.trans (List.mergeSort_perm xs _).symm)
  have ha : a ∈ xs := hp.mem_iff.1 ha
  have hb : b ∈ xs := (List.mergeSort_perm xs _).mem_iff.1 hb
  obtain ⟨i, hi, rfl⟩ := List.getElem_of_mem ha
  obtain ⟨j, hj, rfl⟩ := List.getElem_of_mem hb
  rw [List.pairwise_iff_getElem] at hap
  rcases Nat.lt_trichotomy i j with h | h | h
  · rcases hap i j hi hj h with h' | h'
    · rw [h2] at h'; cases h'
    · rw [h1] at h'; cases h'
  · subst h; rfl
  · rcases hap j i hj hi h with h' | h'
    · rw [h1] at h'; cases h'
    · rw [h2] at h'; cases h'


theorem strLess_irrefl : ∀ a : List Int, strLess a a = false
  | [] => rfl
  | a :: x => by simp [strLess, strLess_irrefl x]
theorem strLess_trans : ∀ a b c : List Int, strLess a b = true → strLess b c = true → strLess a c = true
  | _, _, [], _, h => by simp [strLess] at h
  | _, [], _ :: _, h, _ => by simp [strLess] at h
  | [], _ :: _, _ :: _, _, _ => rfl
  | a :: x, b :: y, c :: z, h1, h2 => by
    simp only [strLess, Bool.or_eq_true, Bool.and_eq_true, decide_eq_true_eq] at *
    rcases h1 with h1 | ⟨h1, h3⟩
    · rcases h2 with h2 | ⟨h2, h4⟩
      · exact Or.inl (by omega)
      · exact Or.inl (by omega)
    · rcases h2 with h2 | ⟨h2, h4⟩
      · exact Or.inl (by omega)
      · exact Or.inr ⟨by omega, strLess_trans x y z h3 h4⟩
theorem strLess_ntrans : ∀ a b c : List Int, strLess a b = false → strLess b c = false → strLess a c = false
  | _, _, [], _, _ => by simp [strLess]
  | _, [], _ :: _, _, h => by simp [strLess] at h
  | [], _ :: _, _ :: _, h, _ => by simp [strLess] at h
  | a :: x, b :: y, c :: z, h1, h2 => by
    simp only [strLess, Bool.or_eq_false_iff, Bool.and_eq_false_iff, decide_eq_false_iff_not] at *
    refine ⟨by omega, ?_⟩
    by_cases hac : a = c
    · right
      have hab : a = b := by omega
      have hbc : b = c := by omega
      exact strLess_ntrans x y z (by rcases h1.2 with h | h; exact absurd hab h; exact h) (by rcases h2.2 with h | h; exact absurd hbc h; exact h)
    · exact Or.inl hac
theorem strLess_ok : LtOK strLess := ⟨strLess_irrefl, strLess_trans, strLess_ntrans⟩
theorem LtOK.by {α β : Type} {lt : β → β → Bool} (h : LtOK lt) (f : α → β) : LtOK fun x y => lt (f x) (f y) := ⟨fun x => h.irrefl _, fun x y z => h.trans _ _ _, fun x y z => h.ntrans _ _ _⟩
theorem intLess_ok : LtOK fun x y : Int => decide (x < y) := ⟨fun x => by simp, fun x y z h1 h2 => by simp at *; omega, fun x y z h1 h2 => by simp at *; omega⟩

end Go.Ab
