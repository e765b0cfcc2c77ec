/-
  strings.Index AT ONE BYTE, strings.Trim AT A CUTSET OF ASCII, strings.Compare: functions of pure data. The contracts are the shelf's.
-/
import Derived.Test.YtnklmlnkiepdiaaGreatDoorAbSplit
import Derived.Shelf.Strings.SlTrimAscii
import Derived.Shelf.Small.Strs
set_option linter.unusedVariables false
set_option linter.unusedSectionVars false
set_option linter.unusedSimpArgs false
namespace Go.Ab
variable [Tabs]
open Go.RowKit (Below)

theorem two_vals {k : Kx} {t u : Ty} {x : t.den} {y : u.den} {vs : Array Value} (h : PRels k [(false, [.val t x]), (false, [.val u y])] vs.toList) : ∃ v v', vs = #[v, v'] ∧ VRel k.w k.O t x [v] ∧ VRel k.w k.O u y [v'] := by
  obtain ⟨v, r, e, h1, v', r', e', h2, h3⟩ := h
  have h3 : r' = [] := h3
  subst h3
  refine ⟨v, v', ?_, prel_val h1, prel_val h2⟩
  apply Array.ext'
  rw [e, e']

theorem two_strs {k : Kx} {x y : List Int} {vs : Array Value} (h : PRels k [(false, [.val .str x]), (false, [.val .str y])] vs.toList) : ∃ a b : ByteArray, vs = #[.string a, .string b] ∧ x = bytesOf a ∧ y = bytesOf b ∧ a.size ≤ MAXL ∧ b.size ≤ MAXL := by
  obtain ⟨v, v', e, ⟨a, h1, h2, h3⟩, ⟨b, h4, h5, h6⟩⟩ := two_vals h
  simp only [List.cons.injEq, and_true] at h1 h4
  subst h1; subst h4
  exact ⟨a, b, e, h2, h5, h3, h6⟩

theorem i64_small {x : Int} (h1 : -9223372036854775808 ≤ x) (h2 : x ≤ 9223372036854775807) : IntKind.i64.wrap x = x := by
  simp [IntKind.wrap, IntKind.bits, IntKind.signed]
  omega
theorem vrel_i64 {w : World} {O : Nat → Prop} {n : Int} (h : IntKind.i64.wrap n = n) : VRel w O (.int .i64) n [.int .i64 n] := ⟨rfl, h⟩

/-! ### Index -/
def indexT : TFun := { arg := .pair .str .str, res := .int .i64, args := [(false, 1), (false, 1)], parts := [(false, 1)], own := [], f := fun a => indexF a.1 a.2 }

theorem idxI_eq (c : UInt8) : ∀ l : List UInt8, idxI (c.toNat : Int) (l.map fun b => (b.toNat : Int)) = Go.Lib.indexByte l c := by
  intro l
  induction l with
  | nil => rfl
  | cons x r ih =>
    simp only [List.map_cons, idxI, Go.Lib.indexByte, toNat_inj, ih, beq_iff_eq]

theorem indexByte_lt (l : List UInt8) (c : UInt8) : Go.Lib.indexByte l c < l.length ∨ Go.Lib.indexByte l c = -1 := by
  induction l with
  | nil => exact Or.inr rfl
  | cons x r ih =>
    simp only [Go.Lib.indexByte, List.length_cons]
    split
    · left; omega
    · split
      · right; rfl
      · rename_i h
        rcases ih with h1 | h1
        · left; omega
        · exact absurd (by simpa using h1) h

open Go.Shelf Go.Proofs in
theorem strIndex_sound {P : Program} {ρ : Go.Shelf.Ren} (he : Enters P (ρ.f 143)) (L : Lays.n143 P ρ) : Sound P (ρ.f 143) indexT := by
  refine sound_plain (arg := .pair .str .str) (res := .int .i64) he rfl fun w X x r vs hargs hf => ?_
  obtain ⟨s, sub⟩ := x
  obtain ⟨a, b, e, h1, h2, h3, h4⟩ := two_strs (x := s) (y := sub) hargs
  subst e; subst h1
  simp only [indexF] at hf
  split at hf
  · rename_i c
    simp only [Option.some.injEq] at hf
    obtain ⟨u, e5, e6⟩ := one_of h2
    subst e5; subst e6
    rw [bytesOf_map, idxI_eq] at hf
    subst hf
    refine (Any.strings_Index_one L a u w).mono fun e w' ⟨g1, g2⟩ => ⟨_, g1, by rw [g2]; exact Below.refl _ _, fun O => vrel_i64 ?_⟩
    have hlt := indexByte_lt a.data.toList u
    have hge := Go.Lib.indexByte_ge a.data.toList u
    have hl : a.data.toList.length = a.size := by simp
    have h3 : a.size ≤ 9223372036854775807 := h3
    exact i64_small (by omega) (by omega)
  · cases hf

/-! ### Trim -/
def trimT : TFun := { arg := .pair .str .str, res := .str, args := [(false, 1), (false, 1)], parts := [(false, 1)], own := [], f := fun a => trimF a.1 a.2 }

theorem contains_map (c : UInt8) : ∀ l : List UInt8, (l.map fun b => (b.toNat : Int)).contains (c.toNat : Int) = l.contains c := by
  intro l
  induction l with
  | nil => rfl
  | cons x r ih =>
    simp only [List.map_cons, List.contains_cons, ih]
    congr 1
    rw [Bool.eq_iff_iff]
    simp [toNat_inj]

theorem dropWhile_map' (cs l : List UInt8) : (l.map fun b => (b.toNat : Int)).dropWhile ((cs.map fun b => (b.toNat : Int)).contains ·) = (l.dropWhile (cs.contains ·)).map fun b => (b.toNat : Int) := by
  induction l with
  | nil => rfl
  | cons x r ih =>
    simp only [List.map_cons, List.dropWhile_cons, contains_map, ih]
    split <;> rfl

theorem trimI_eq (l cs : List UInt8) : trimI (cs.map fun b => (b.toNat : Int)) (l.map fun b => (b.toNat : Int)) = (Go.Lib.trimS l cs).map fun b => (b.toNat : Int) := by
  simp only [trimI, Go.Lib.trimS, Go.Lib.trimLeftS, Go.Lib.trimRightS]
  rw [← List.map_reverse, dropWhile_map', ← List.map_reverse, dropWhile_map']

theorem trimS_len (l cs : List UInt8) : (Go.Lib.trimS l cs).length ≤ l.length := by
  simp only [Go.Lib.trimS, Go.Lib.trimLeftS, Go.Lib.trimRightS]
  have h1 := (List.dropWhile_sublist (cs.contains ·) (l := (l.reverse.dropWhile (cs.contains ·)).reverse)).length_le
  have h2 := (List.dropWhile_sublist (cs.contains ·) (l := l.reverse)).length_le
  simp only [List.length_reverse] at h1 h2
  omega

open Go.Shelf Go.Proofs in
theorem trim_sound {P : Program} {ρ : Go.Shelf.Ren} (he : Enters P (ρ.f 160)) (L : Lays.n160 P ρ) (h116 : (P.info? (ρ.t 116)).map (fun i => (i.zero, i.size)) = some (some (.agg (Array.replicate 256 (.bool false))), 256)) : Sound P (ρ.f 160) trimT := by
  refine sound_plain (arg := .pair .str .str) (res := .str) he rfl fun w X x r vs hargs hf => ?_
  obtain ⟨s, cs⟩ := x
  obtain ⟨a, b, e, h1, h2, h3, h4⟩ := two_strs (x := s) (y := cs) hargs
  subst e; subst h1; subst h2
  simp only [trimF] at hf
  split at hf
  · rename_i hg
    simp only [Option.some.injEq] at hf
    subst hf
    have hb : b.size < 4294967281 := by have := hg.2; rw [bytesOf_len'] at this; exact this
    refine (Any.strings_Trim_laid L h116 a b w h3 hb fun j c hc => ?_).mono fun e w' ⟨g1, g2⟩ => ⟨_, g1, g2, fun O => ⟨_, rfl, ?_, ?_⟩⟩
    · have := List.all_eq_true.1 hg.1 (c.toNat : Int) (by rw [bytesOf_map]; exact List.mem_map.2 ⟨c, List.mem_of_getElem? hc, rfl⟩)
      have := of_decide_eq_true this
      omega
    · rw [bytesOf_map, bytesOf_map, bytesOf_map, trimI_eq]
    · have := trimS_len a.data.toList b.data.toList
      show (Go.Lib.trimS _ _).toArray.size ≤ _
      rw [List.size_toArray]
      exact Nat.le_trans this h3
  · cases hf

/-! ### Compare -/
def compareT : TFun := { arg := .pair .str .str, res := .int .i64, args := [(false, 1), (false, 1)], parts := [(false, 1)], own := [], f := fun a => compareF a.1 a.2 }

theorem compareI_eq : ∀ a b : List UInt8, compareI (a.map fun b => (b.toNat : Int)) (b.map fun b => (b.toNat : Int)) = Go.Lib.compareBytes a b := by
  intro a
  induction a with
  | nil => intro b; cases b <;> rfl
  | cons x r ih =>
    intro b
    cases b with
    | nil => rfl
    | cons y q =>
      simp only [List.map_cons, compareI, Go.Lib.compareBytes, ih]
      have h1 : ((x.toNat : Int) < (y.toNat : Int)) ↔ x < y := by rw [UInt8.lt_iff_toNat_lt]; omega
      have h2 : ((y.toNat : Int) < (x.toNat : Int)) ↔ y < x := by rw [UInt8.lt_iff_toNat_lt]; omega
      simp only [h1, h2]

theorem compareI_range : ∀ a b : List Int, -1 ≤ compareI a b ∧ compareI a b ≤ 1 := by
  intro a
  induction a with
  | nil => intro b; cases b <;> simp [compareI]
  | cons x r ih =>
    intro b
    cases b with
    | nil => simp [compareI]
    | cons y q =>
      simp only [compareI]
      split
      · omega
      · split
        · omega
        · exact ih q

open Go.Shelf Go.Proofs in
theorem compare_sound {P : Program} {ρ : Go.Shelf.Ren} (he : Enters P (ρ.f 106)) (L : Lays.n106 P ρ) : Sound P (ρ.f 106) compareT := by
  refine sound_plain (arg := .pair .str .str) (res := .int .i64) he rfl fun w X x r vs hargs hf => ?_
  obtain ⟨s, sub⟩ := x
  obtain ⟨a, b, e, h1, h2, h3, h4⟩ := two_strs (x := s) (y := sub) hargs
  subst e; subst h1; subst h2
  simp only [compareF, Option.some.injEq] at hf
  subst hf
  refine (Any.strings_Compare L a b w).mono fun e w' ⟨g1, g2⟩ => ⟨_, g1, by rw [g2]; exact Below.refl _ _, fun O => ?_⟩
  rw [bytesOf_map, bytesOf_map, compareI_eq]
  have h := compareI_range (a.data.toList.map fun b => (b.toNat : Int)) (b.data.toList.map fun b => (b.toNat : Int))
  rw [compareI_eq] at h
  exact vrel_i64 (i64_small (by omega) (by omega))

end Go.Ab
