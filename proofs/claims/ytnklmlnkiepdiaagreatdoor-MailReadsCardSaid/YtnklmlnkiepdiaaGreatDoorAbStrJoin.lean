/-
  strings.Join: a function of pure data. The contract is the shelf's.
-/
import Derived.Test.YtnklmlnkiepdiaaGreatDoorAbStrs
import Derived.Shelf.Strings.OnBuilder
set_option linter.unusedVariables false
set_option linter.unusedSectionVars false
set_option linter.unusedSimpArgs false
namespace Go.Ab
variable [Tabs]
open Go.RowKit (Below)

def joinT : TFun := { arg := .pair (.slice .str) .str, res := .str, args := [(false, 1), (false, 1)], parts := [(false, 1)], own := [], f := fun a => joinF a.1 a.2 }

theorem choose_each {α β : Type} (Q : Nat → α → β → Prop) : ∀ (xs : List α) (o : Nat), (∀ i (h : i < xs.length), ∃ b, Q (o + i) xs[i] b) → ∃ bs : List β, bs.length = xs.length ∧ ∀ i (h : i < xs.length) (h' : i < bs.length), Q (o + i) xs[i] bs[i] := by
  intro xs
  induction xs with
  | nil => intro o h; exact ⟨[], rfl, fun i h => absurd h (Nat.not_lt_zero _)⟩
  | cons x r ih =>
    intro o h
    obtain ⟨b, hb⟩ := h 0 (by simp)
    obtain ⟨bs, h1, h2⟩ := ih (o + 1) (fun i hi => by
      have := h (i + 1) (by simp; omega)
      simp only [List.getElem_cons_succ] at this
      have e : o + (i + 1) = o + 1 + i := by omega
      rw [e] at this
      exact this)
    refine ⟨b :: bs, by simp [h1], fun i hi hi' => ?_⟩
    cases i with
    | zero => exact hb
    | succ i =>
      have := h2 i (by simp at hi; omega) (by simp at hi'; omega)
      simp only [List.getElem_cons_succ]
      have e : o + (i + 1) = o + 1 + i := by omega
      rw [e]
      exact this

theorem map_intersperse' {α β : Type} (f : α → β) (x : α) : ∀ l : List α, (l.intersperse x).map f = (l.map f).intersperse (f x) := by
  intro l
  induction l with
  | nil => rfl
  | cons a r ih =>
    cases r with
    | nil => rfl
    | cons b q =>
      simp only [List.intersperse, List.map_cons] at ih ⊢
      rw [ih]

theorem joinI_eq (sep : List UInt8) (xs : List (List UInt8)) : joinI (sep.map fun b => (b.toNat : Int)) (xs.map fun l => l.map fun b => (b.toNat : Int)) = (Go.Lib.join xs sep).map fun b => (b.toNat : Int) := by
  simp only [joinI, Go.Lib.join, List.intercalate]
  rw [List.map_flatten, map_intersperse']

open Go.Shelf Go.Proofs in
theorem join_sound {P : Program} {ρ : Go.Shelf.Ren} (he : Enters P (ρ.f 156)) (L : Lays.n156 P ρ) (hX : Builder.Extra P ρ) : Sound P (ρ.f 156) joinT := by
  refine sound_plain (arg := .pair (.slice .str) .str) (res := .str) he rfl fun w X x r vs hargs hf => ?_
  obtain ⟨xs, sep⟩ := x
  obtain ⟨v, v', e, hv, b, h4, h5, h6⟩ := two_vals (t := .slice .str) (u := .str) (x := xs) (y := sep) hargs
  simp only [List.cons.injEq, and_true] at h4
  subst h4
  have h5 : sep = bytesOf b := h5
  subst h5
  obtain ⟨a, cap, e2, h7, h8, h9⟩ := hv
  simp only [List.cons.injEq, and_true] at e2
  subst e2
  subst e
  simp only [joinF] at hf
  split at hf
  · rename_i hg
    simp only [Option.some.injEq] at hf
    subst hf
    have key : ∃ bl : List ByteArray, (xs : List (List Int)) = bl.map bytesOf ∧
        ((Go.Lib.join (bl.map (·.data.toList)) b.data.toList).length ≤ 140737488355328 →
        Calls P (ρ.f 156) #[.slice a (List.length xs) cap, .string b] w fun e w' => e = .returned (.string ⟨(Go.Lib.join (bl.map (·.data.toList)) b.data.toList).toArray⟩) ∧ Below w.heap.size w w') := by
      by_cases hne : xs = []
      · have hne : (xs : List (List Int)) = [] := hne
        subst hne
        refine ⟨[], rfl, fun _ => ?_⟩
        exact (Any.strings_Join_none L hX a cap b w).mono fun e w' ⟨he, hw⟩ => ⟨he, hw ▸ Below.refl _ _⟩
      · obtain ⟨B, o, row, E, fz, q1, q2, q3, q4, q5⟩ := h9 hne
        subst q1
        obtain ⟨bl, q6, q7⟩ := choose_each (fun i (x : List Int) (y : ByteArray) => row[i]? = some (.string y) ∧ x = bytesOf y) xs o (fun i hi => by
          obtain ⟨ba, z1, z2, z3⟩ := q5 i hi
          refine ⟨ba, ?_, z2⟩
          have hs : (Ty.str).size = 1 := rfl
          rw [hs, Nat.mul_one] at z1 q4
          have := part_get (row := row) (o := o + i) (n := 1) (j := 0) (by omega)
          rw [z1] at this
          simpa using this.symm)
        refine ⟨bl, ?_, fun hl => ?_⟩
        · apply List.ext_getElem
          · rw [List.length_map]; exact q6.symm
          · intro i hi hi'
            rw [List.getElem_map]
            exact (q7 i hi (by rw [q6]; exact hi)).2
        have := Any.strings_Join L hX B o cap bl b w (fun j y hy => by
            obtain ⟨hj, hy⟩ := List.getElem?_eq_some_iff.1 hy
            rw [cell_of_row w B (o + j) row E fz q3, (q7 j (by omega) hj).1, hy]) (heap_lt q3) (by rw [q6]; exact hg.2) (by rw [q6]; exact h7) hl
        rw [q6] at this
        exact this
    obtain ⟨bl, q1, q2⟩ := key
    have hj : joinI (bytesOf b) xs = (Go.Lib.join (bl.map (·.data.toList)) b.data.toList).map fun b => (b.toNat : Int) := by
      rw [← joinI_eq, q1, List.map_map]
      rfl
    have hlen : (Go.Lib.join (bl.map (·.data.toList)) b.data.toList).length ≤ 140737488355328 := by
      have := hg.1
      rw [hj, List.length_map] at this
      exact this
    refine (q2 hlen).mono fun e w' ⟨g1, g2⟩ => ⟨_, g1, g2, fun O => ⟨_, rfl, ?_, ?_⟩⟩
    · rw [hj, bytesOf_map]
    · show (Go.Lib.join _ _).toArray.size ≤ _
      rw [List.size_toArray]
      show _ ≤ 9223372036854775807
      omega
  · cases hf

end Go.Ab
