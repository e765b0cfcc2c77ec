/-
  strconv.Itoa, strings.ReplaceAll of one byte by nothing: functions of pure data that look at a table. The contracts are the shelf's.
-/
import Derived.Test.YtnklmlnkiepdiaaGreatDoorAbStrs
import Derived.Test.YtnklmlnkiepdiaaGreatDoorAbItoaFn
import Derived.Shelf.Strconv.Itoa3
import Derived.Shelf.Strings.Replace
import Derived.Lib.AppendIntMem
set_option linter.unusedVariables false
set_option linter.unusedSectionVars false
set_option linter.unusedSimpArgs false
namespace Go.Ab
variable [Tabs]
open Go.RowKit (Below)

theorem i64_range {x : Int} (h : IntKind.i64.wrap x = x) : -9223372036854775808 ≤ x ∧ x ≤ 9223372036854775807 := by
  simp [IntKind.wrap, IntKind.bits, IntKind.signed] at h
  omega

omit [Tabs] in
/-- a table of whole numbers stays what it is -/
theorem tabIs_mono {P : Program} {name : String} {k : IntKind} {zs : List Int} {g lo : Nat} (hg : P.globalNamed name = some g) (hlo : g < lo) {w w' : World}
    (h : ∀ (B : Nat) (row : Array Value) (E : TypeId) (fz : Nat × Nat), B < lo → w.heap[B]? = some (.cells row E fz) → w'.heap[B]? = some (.cells row E fz)) (ht : Go.Lib.TabIs P w name k zs) : Go.Lib.TabIs P w' name k zs := by
  unfold Go.Lib.TabIs World.var? at *
  rw [hg] at ht ⊢
  simp only [Option.bind_some] at ht ⊢
  split at ht
  · rename_i cs E fz hc
    rw [h g cs E fz hlo hc]
    exact ht
  · cases ht

omit [Tabs] in
theorem cell_mono {g lo m : Nat} (hlo : g < lo) {w w' : World} (h : ∀ (B : Nat) (row : Array Value) (E : TypeId) (fz : Nat × Nat), B < lo → w.heap[B]? = some (.cells row E fz) → w'.heap[B]? = some (.cells row E fz)) {v : Value}
    (ht : w.cell? ⟨g, m, none⟩ = some v) : w'.cell? ⟨g, m, none⟩ = some v := by
  unfold World.cell? at *
  simp only at ht ⊢
  split at ht
  · rename_i cs E fz hc
    rw [h g cs E fz hlo hc]
    exact ht
  · cases ht

def itoaT : TFun := { arg := .int .i64, res := .str, args := [(false, 1)], parts := [(false, 1)], own := [], f := itoaF }

open Go.Lib in
theorem nDigits_le (u : Nat) (h : u ≤ 9223372036854775808) : nDigits u ≤ 19 := by
  rcases Nat.eq_zero_or_pos u with h0 | h0
  · subst h0; rw [nDigits_small (by omega)]; omega
  · have h1 := nDigits_pos u
    rcases Nat.lt_or_ge 19 (nDigits u) with h2 | h2
    · exfalso
      obtain ⟨k, hk⟩ : ∃ k, nDigits u = k + 1 := ⟨nDigits u - 1, by omega⟩
      have := (numDigits_eq u h0 (by omega))
      rw [hk] at this h2
      have h3 := this.1
      have h4 := this.2
      split at h3
      · rename_i h5
        have h6 : l10 (Go.Lib.bitLen u) = 19 := by omega
        rw [h6] at h5
        omega
      · omega
    · exact h2

open Go.Lib in
theorem itoa_len (n : Int) (h1 : -9223372036854775808 ≤ n) (h2 : n ≤ 9223372036854775807) : (itoa n).length ≤ 20 := by
  unfold itoa
  split
  · have := nDigits_le n.natAbs (by omega)
    rw [List.length_cons, decDigits_length]; omega
  · have := nDigits_le n.toNat (by omega)
    rw [decDigits_length]; omega

open Go.Shelf Go.Proofs in
theorem itoa_sound {P : Program} {ρ : Go.Shelf.Ren} (he : Enters P (ρ.f 171)) (L : LaysM.n171 P ρ) (hT : ∀ w, Tabs.p w → Go.Lib.TabIs P w "internal/strconv.uint64pow10" .u64 Go.Lib.pow10Tab) : Sound P (ρ.f 171) itoaT := by
  refine sound_plainT (arg := .int .i64) (res := .str) he rfl fun w X x r vs hp hargs hf => ?_
  obtain ⟨v, e1, e2, hw⟩ := one_val (x := x) hargs
  simp only [List.cons.injEq, and_true] at e2
  subst e2
  obtain ⟨h0, h1⟩ := i64_range hw
  have hvs : vs = #[.int .i64 x] := by
    apply Array.ext'
    rw [e1]
  rw [hvs]
  have hf : some (itoaI x) = some r := hf
  cases hf
  refine (Any.strconv_Itoa L x h0 h1 w (hT w hp)).mono fun e w' ⟨g1, k, os, g2⟩ => ⟨_, g1, ?_, fun O => ⟨_, rfl, ?_, ?_⟩⟩
  · rw [g2]; exact Go.Lib.below_grow _ w (Nat.le_refl _) k os
  · simp only [itoaI, bytesOf]
  · show (Go.Lib.itoa x).toArray.size ≤ MAXL
    rw [List.size_toArray]
    have := itoa_len x h0 h1
    simp only [MAXL]; omega

/-! ### ReplaceAll of one byte by nothing -/
section
open Go.Lib
theorem replaceK_other {c x : UInt8} (hx : x ≠ c) (k : Nat) (r : List UInt8) : replaceK [c] [] k (x :: r) = x :: replaceK [c] [] k r := by
  cases k with
  | zero => rfl
  | succ k =>
    have hi : indexByte (x :: r) c = if indexByte r c = -1 then -1 else indexByte r c + 1 := by
      simp [indexByte, hx]
    simp only [replaceK, index_one, hi, beq_iff_eq]
    by_cases h : indexByte r c = -1
    · rw [if_pos h, if_pos rfl, if_pos h]
    · have hge := indexByte_ge r c
      rw [if_neg h, if_neg (by omega), if_neg h]
      obtain ⟨i, hi⟩ : ∃ i : Nat, indexByte r c = i := ⟨(indexByte r c).toNat, by omega⟩
      rw [hi]
      have e1 : ((i : Int) + 1).toNat = i + 1 := by omega
      have e2 : (i : Int).toNat = i := by omega
      rw [e1, e2]
      simp

theorem replaceK_filter (c : UInt8) : ∀ s : List UInt8, replaceK [c] [] (s.count c) s = s.filter fun x => decide (x ≠ c) := by
  intro s
  induction s with
  | nil => rfl
  | cons x r ih =>
    by_cases hx : x = c
    · subst hx
      rw [List.count_cons_self]
      have : replaceK [x] [] (r.count x + 1) (x :: r) = replaceK [x] [] (r.count x) r := by
        simp [replaceK, index_one, indexByte]
      rw [this, ih]
      simp
    · rw [List.count_cons_of_ne (by simpa using hx), replaceK_other hx, ih]
      simp [hx]

theorem replaceAll_drop (c : UInt8) (s : List UInt8) : replaceAll s [c] [] = s.filter fun x => decide (x ≠ c) := by
  unfold replaceAll replace replaceNum
  rw [if_neg (by simp), if_pos (Or.inl (by decide)), count_one]
  exact replaceK_filter c s
end

def dropT : TFun := { arg := .pair .str (.pair .str .str), res := .str, args := [(false, 1), (false, 1), (false, 1)], parts := [(false, 1)], own := [], f := fun a => dropF a.1 a.2.1 a.2.2 }

open Go.Shelf Go.Proofs in
theorem drop_sound {P : Program} {ρ : Go.Shelf.Ren} (he : Enters P (ρ.f 155)) (L : Lays.n155 P ρ) (X : Builder.Extra P ρ) (hT : ∀ w, Tabs.p w → ∃ m, w.cell? ⟨(ρ.g 1), 0, none⟩ = some (.int .i64 m)) : Sound P (ρ.f 155) dropT := by
  refine sound_plainT (arg := .pair .str (.pair .str .str)) (res := .str) he rfl fun w Y x r vs hp hargs hf => ?_
  obtain ⟨s, old, new⟩ := x
  obtain ⟨v, q, e1, h1, v2, q2, e2, h2, v3, q3, e3, h3, h4⟩ := hargs
  have h4 : q3 = [] := h4
  subst h4; subst e3; subst e2
  obtain ⟨a, k1, k2, k3⟩ := prel_val (t := .str) (x := s) h1
  obtain ⟨b, l1, l2, l3⟩ := prel_val (t := .str) (x := old) h2
  obtain ⟨c, m1, m2, m3⟩ := prel_val (t := .str) (x := new) h3
  simp only [List.cons.injEq, and_true] at k1 l1 m1
  subst k1; subst l1; subst m1
  have hvs : vs = #[.string a, .string b, .string c] := by
    apply Array.ext'
    rw [e1]
  rw [hvs]
  have hf : dropF s old new = some r := hf
  unfold dropF at hf
  split at hf
  · rename_i ch
    split at hf
    · rename_i hlen
      cases hf
      obtain ⟨m, hm⟩ := hT w hp
      obtain ⟨u, e5, e6⟩ := one_of l2
      subst e5; subst e6
      have hc : c = ⟨#[]⟩ := by
        have : (bytesOf c).length = 0 := by rw [← m2]; rfl
        rw [bytesOf_len] at this
        apply ByteArray.ext
        exact Array.eq_empty_of_size_eq_zero this
      subst hc
      have hsz : a.size < 4294967281 := by rw [← bytesOf_len, ← k2]; exact hlen
      refine (Any.strings_ReplaceAll L X a ⟨#[u]⟩ ⟨#[]⟩ m w hsz hm (Nat.le_refl 1) (by show a.size + _ * 0 ≤ _; omega)).mono fun e w' ⟨g1, g2⟩ => ⟨_, g1, g2, fun O => ⟨_, rfl, ?_, ?_⟩⟩
      · rw [k2]
        show _ = bytesOf ⟨(Go.Lib.replaceAll a.data.toList [u] []).toArray⟩
        rw [replaceAll_drop]
        simp only [bytesOf, List.filter_map]
        congr 1
        refine List.filter_congr fun x _ => ?_
        simp [toNat_inj]
      · show (Go.Lib.replaceAll a.data.toList [u] []).toArray.size ≤ MAXL
        rw [List.size_toArray, replaceAll_drop]
        refine Nat.le_trans (List.length_filter_le _ _) ?_
        have : a.data.toList.length = a.size := Array.length_toList
        rw [this]; exact k3
    · cases hf
  · cases hf

end Go.Ab
