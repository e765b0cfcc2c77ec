/-
  strings.Index AT ANY PIECE: a function of pure data that looks at the variable MaxLen. The contract is the shelf's.
-/
import Derived.Test.YtnklmlnkiepdiaaGreatDoorAbStrs
set_option linter.unusedVariables false
set_option linter.unusedSectionVars false
set_option linter.unusedSimpArgs false
namespace Go.Ab
variable [Tabs]
open Go.RowKit (Below)

theorem prefix_map : ∀ (a b : List UInt8), (a.map fun x => (x.toNat : Int)).isPrefixOf (b.map fun x => (x.toNat : Int)) = a.isPrefixOf b := by
  intro a
  induction a with
  | nil => intro b; cases b <;> rfl
  | cons x r ih =>
    intro b
    cases b with
    | nil => rfl
    | cons y t =>
      simp only [List.map_cons, List.isPrefixOf, ih]
      congr 1
      rw [Bool.eq_iff_iff]
      simp [toNat_inj]

theorem idxsI_eq (sub : List UInt8) : ∀ l : List UInt8, idxsI (sub.map fun x => (x.toNat : Int)) (l.map fun x => (x.toNat : Int)) = Go.Lib.index l sub := by
  intro l
  induction l with
  | nil => cases sub <;> rfl
  | cons x r ih =>
    have hp := prefix_map sub (x :: r)
    simp only [List.map_cons] at hp
    simp only [List.map_cons, idxsI, Go.Lib.index, ih, hp, beq_iff_eq]

theorem index_lt (sub : List UInt8) : ∀ l : List UInt8, Go.Lib.index l sub ≤ l.length := by
  intro l
  induction l with
  | nil => simp only [Go.Lib.index]; split <;> simp
  | cons x r ih =>
    simp only [Go.Lib.index, List.length_cons, beq_iff_eq]
    split
    · omega
    · split
      · omega
      · omega

def indexGT : TFun := { arg := .pair .str .str, res := .int .i64, args := [(false, 1), (false, 1)], parts := [(false, 1)], own := [], f := fun a => indexG a.1 a.2 }

open Go.Shelf Go.Proofs in
theorem indexG_sound {P : Program} {ρ : Go.Shelf.Ren} (he : Enters P (ρ.f 143)) (L : Lays.n143 P ρ) (hT : ∀ w, Tabs.p w → ∃ m, w.cell? ⟨(ρ.g 1), 0, none⟩ = some (.int .i64 m)) : Sound P (ρ.f 143) indexGT := by
  refine sound_plainT (arg := .pair .str .str) (res := .int .i64) he rfl fun w X x r vs hp hargs hf => ?_
  obtain ⟨s, sub⟩ := x
  obtain ⟨a, b, e, h1, h2, h3, h4⟩ := two_strs (x := s) (y := sub) hargs
  subst e; subst h1; subst h2
  have hf : indexG (bytesOf a) (bytesOf b) = some r := hf
  unfold indexG at hf
  have fin : ∀ n : Int, -1 ≤ n → n ≤ a.size → IntKind.i64.wrap n = n := by
    intro n h1 h2
    have h3 : a.size ≤ 9223372036854775807 := h3
    exact i64_small (by omega) (by omega)
  have hl : a.data.toList.length = a.size := by simp
  split at hf
  · rename_i c hc
    simp only [Option.some.injEq] at hf
    obtain ⟨u, e5, e6⟩ := one_of (ba := b) hc.symm
    subst e5; subst e6
    rw [bytesOf_map, idxI_eq] at hf
    subst hf
    refine (Any.strings_Index_one { L with } a u w).mono fun e w' ⟨g1, g2⟩ => ⟨_, g1, by rw [g2]; exact Below.refl _ _, fun O => vrel_i64 ?_⟩
    have hlt := indexByte_lt a.data.toList u
    have hge := Go.Lib.indexByte_ge a.data.toList u
    exact fin _ hge (by omega)
  · split at hf
    · rename_i hlen
      simp only [Option.some.injEq] at hf
      have hf : idxsI (b.data.toList.map fun x => (x.toNat : Int)) (a.data.toList.map fun x => (x.toNat : Int)) = r := hf
      rw [idxsI_eq] at hf
      subst hf
      obtain ⟨m, hm⟩ := hT w hp
      have hsz : a.size < 4294967281 := by rw [← bytesOf_len]; exact hlen
      refine (Any.strings_Index L a b m w hsz hm).mono fun e w' ⟨g1, g2⟩ => ⟨_, g1, by rw [g2]; exact Below.refl _ _, fun O => vrel_i64 ?_⟩
      have hlt := index_lt b.data.toList a.data.toList
      have hge := Go.Lib.index_ge a.data.toList b.data.toList
      exact fin _ hge (by omega)
    · cases hf

end Go.Ab
