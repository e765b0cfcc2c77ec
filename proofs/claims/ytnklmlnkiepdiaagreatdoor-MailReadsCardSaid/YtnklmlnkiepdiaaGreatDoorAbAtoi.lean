/-
  strconv.Atoi, strings.Cut AT ONE BYTE, in their caller's state (several results; an error that is nil or not). The contracts are the shelf's.
-/
import Derived.Test.YtnklmlnkiepdiaaGreatDoorAbItoa
import Derived.Test.YtnklmlnkiepdiaaGreatDoorAbAtoiFn
import Derived.Test.YtnklmlnkiepdiaaGreatDoorAbRng
import Derived.Shelf.Strconv.AtoiAll
import Derived.Shelf.Strings.Cut
import Derived.Lib.UnsafeStr
set_option linter.unusedVariables false
set_option linter.unusedSectionVars false
set_option linter.unusedSimpArgs false
namespace Go.Ab
variable [Tabs]
open Go.RowKit (Below)

theorem atoiJ_nat : NatI atoiJ := by
  intro R args hp nx K s
  simp only [atoiJ]
  split
  · simp only [gate]
    split <;> rfl
  · rfl

theorem cutJ_nat : NatI cutJ := by
  intro R args hp nx K s
  simp only [cutJ]
  split
  · simp only [gate]
    split <;> rfl
  · rfl

/-- The end of a call that leaves all that was there as it was. -/
theorem quiet_end {N : Nat} {k : Kx} {w' : World} {v : AVal} {u : Value} (hk : HRel N k) (hN : N ≤ k.w.heap.size) (hu : ∀ n, k.U n → n < k.nx) (hb : Below k.w.heap.size k.w w') (ha : ARel (k.on w') v u) :
    ∃ u' k', Ending.returned u = .returned u' ∧ k'.w = w' ∧ k'.hp = k.hp ∧ k'.nx = k.nx ∧ HRel N k' ∧ Ext k k' ∧ Below N k.w k'.w ∧ ARel k' v u' ∧ ∀ n, k'.U n → n < k'.nx :=
  ⟨u, k.on w', rfl, rfl, rfl, rfl, HRel.swap (Swap.below hb) hk, ⟨fun B _ hlt => hb.block B hlt, fun B h _ => h, hb.size, fun _ h => h, fun n e xs _ h => ⟨xs, h, rfl, rfl⟩, fun n cs _ h => ⟨cs, h, rfl⟩, fun n kt vt xs _ h => ⟨xs, h, rfl⟩, rfl⟩, hb.mono hN, ha, hu⟩

theorem arel_str {k : Kx} {x : List Int} {v : Value} (h : ARel k (.one (.val .str x)) v) : ∃ a : ByteArray, v = .string a ∧ x = bytesOf a ∧ a.size ≤ MAXL := by
  rcases h with h | h
  · cases h
  · obtain ⟨a, h1, h2, h3⟩ := h
    simp only [List.cons.injEq, and_true] at h1
    exact ⟨a, h1, h2, h3⟩

theorem toB_bytes (a : ByteArray) : toB (bytesOf a) = a.data.toList := by
  unfold toB bytesOf
  rw [List.map_map]
  refine (List.map_congr_left fun b _ => ?_).trans (List.map_id _)
  simp

theorem prel_i64 {k : Kx} {n : Int} (h : IntKind.i64.wrap n = n) : PRel k false [.val (.int .i64) n] (.int .i64 n) := ⟨_, rfl, Or.inr ⟨⟨rfl, h⟩, rfl⟩⟩
theorem prel_str {k : Kx} {x : List Int} {a : ByteArray} (h : x = bytesOf a) (hl : a.size ≤ MAXL) : PRel k false [.val .str x] (.string a) := ⟨_, rfl, Or.inr ⟨⟨a, rfl, h, hl⟩, rfl⟩⟩
theorem prel_bool {k : Kx} {b : Bool} : PRel k false [.val .bool b] (.bool b) := ⟨_, rfl, Or.inr ⟨rfl, rfl⟩⟩

/-- an error's variable holds an error or none -/
def ErrCell (w : World) (g : Nat) : Prop := ∃ ev, w.cell? ⟨g, 0, none⟩ = some ev ∧ (ev = .nilIface ∨ ∃ te pe, ev = .iface te pe)

open Go.Shelf Go.Proofs in
theorem atoi_sound {P : Program} {ρ : Go.Shelf.Ren} (he : Enters P (ρ.f 172)) (L : LaysC.n172 P ρ) (hT : ∀ w, Tabs.p w → ErrCell w (ρ.g 15) ∧ ErrCell w (ρ.g 16)) : SoundIn P (ρ.f 172) atoiJ where
  enters := he
  calls := by
    intro N k avs vs v hp' nx' hk hN hargs hu hr
    simp only [atoiJ] at hr
    split at hr
    · rename_i x
      obtain ⟨q, r, e1, h1, h2⟩ := hargs
      have h2 : r = [] := h2
      subst h2
      obtain ⟨a, e2, h3, h4⟩ := arel_str h1
      subst e2
      have hvs : vs = #[.string a] := by apply Array.ext'; rw [e1]
      rw [hvs]
      unfold gate at hr
      split at hr
      · rename_i hg
        simp only [Option.some.injEq, Prod.mk.injEq] at hr
        obtain ⟨g1, g2, g3⟩ := hr
        subst g1; subst g2; subst g3
        simp only [decide_eq_true_eq] at hg
        have hsz : a.size ≤ 281474976710656 := by rw [← bytesOf_len, ← h3]; exact hg
        obtain ⟨⟨ev1, hv1, hw1⟩, ⟨ev2, hv2, hw2⟩⟩ := hT k.w hk.xlow.2.1
        have hat : atoiI x = match Go.Lib.atoiAll a.data.toList with
            | .ok v => (v, true)
            | .«syntax» => (0, false)
            | .range => (Go.Lib.atoiSat a.data.toList, false) := by
          unfold atoiI
          rw [h3, toB_bytes]
          cases Go.Lib.atoiAll a.data.toList <;> rfl
        cases hres : Go.Lib.atoiAll a.data.toList with
        | ok n =>
          rw [hres] at hat
          simp only at hat
          obtain ⟨b0, b1⟩ := Go.Lib.atoiAll_bounds hres
          refine (Any.strconv_Atoi_ok L a (by omega) n hres k.w).mono fun e w' ⟨q1, q2⟩ => ?_
          subst q1
          refine quiet_end hk hN hu ?_ ?_
          · rcases q2 with q2 | ⟨t, q2⟩
            · rw [q2]; exact Below.refl _ _
            · rw [q2]
              unfold Go.Lib.bytesWorld
              exact Go.Lib.below_freeze (B := k.w.heap.size) (p := ⟨k.w.heap.size, _, none⟩) ((Below.refl _ k.w).drew.alloc (Nat.le_refl _) _) (Nat.le_refl _) 1
          · rw [hat]
            exact ⟨_, rfl, _, _, rfl, prel_i64 (i64_small (by omega) (by omega)), _, _, rfl, ⟨_, rfl, Or.inr ⟨Or.inl ⟨rfl, rfl⟩, rfl⟩⟩, rfl⟩
        | «syntax» =>
          rw [hres] at hat
          simp only at hat
          refine (Any.strconv_Atoi_syntax L a hsz hres ev1 k.w hv1 hw1).mono fun e w' ⟨B, q1, _, _, q2⟩ => ?_
          subst q1
          refine quiet_end hk hN hu q2 ?_
          rw [hat]
          exact ⟨_, rfl, _, _, rfl, prel_i64 (by decide), _, _, rfl, ⟨_, rfl, Or.inr ⟨Or.inr ⟨rfl, _, _, rfl⟩, rfl⟩⟩, rfl⟩
        | range =>
          rw [hres] at hat
          simp only at hat
          refine (Any.strconv_Atoi_range L a hsz hres ev2 k.w hv2 hw2).mono fun e w' ⟨B, q1, _, _, q2⟩ => ?_
          subst q1
          refine quiet_end hk hN hu q2 ?_
          rw [hat]
          refine ⟨_, rfl, _, _, rfl, prel_i64 ?_, _, _, rfl, ⟨_, rfl, Or.inr ⟨Or.inr ⟨rfl, _, _, rfl⟩, rfl⟩⟩, rfl⟩
          unfold Go.Lib.atoiSat
          split <;> decide
      · cases hr
    · cases hr

section
open Go.Lib
theorem cut_eq (c : UInt8) : ∀ l : List UInt8, cutI (c.toNat : Int) (l.map fun b => (b.toNat : Int)) = ((Go.Lib.cut l [c]).1.map (fun b => (b.toNat : Int)), (Go.Lib.cut l [c]).2.1.map (fun b => (b.toNat : Int)), (Go.Lib.cut l [c]).2.2) := by
  intro l
  induction l with
  | nil =>
    have : ¬ (0 ≤ index [] [c]) := by rw [index_one]; simp [indexByte]
    unfold Go.Lib.cut
    rw [if_neg this]
    rfl
  | cons x r ih =>
    unfold Go.Lib.cut at ih ⊢
    rw [index_one] at ih ⊢
    simp only [List.map_cons, cutI, toNat_inj]
    have hi : indexByte (x :: r) c = if x = c then 0 else if indexByte r c = -1 then -1 else indexByte r c + 1 := by simp [indexByte]
    have hge := indexByte_ge r c
    by_cases hx : x = c
    · rw [if_pos hx]
      rw [if_pos hx] at hi
      rw [hi]
      simp
    · rw [if_neg hx]
      rw [if_neg hx] at hi
      by_cases h1 : indexByte r c = -1
      · rw [if_pos h1] at hi
        rw [h1, if_neg (by decide)] at ih
        rw [hi, if_neg (by decide), ih]
        rfl
      · rw [if_neg h1] at hi
        rw [if_pos (by omega)] at ih
        rw [hi, if_pos (by omega), ih]
        obtain ⟨j, hj⟩ : ∃ j : Nat, indexByte r c = j := ⟨(indexByte r c).toNat, by omega⟩
        rw [hj]
        have e1 : ((j : Int) + 1).toNat = j + 1 := by omega
        have e2 : (j : Int).toNat = j := by omega
        rw [e1, e2]
        simp

theorem lcut_len (l s : List UInt8) : (Go.Lib.cut l s).1.length ≤ l.length ∧ (Go.Lib.cut l s).2.1.length ≤ l.length := by
  unfold Go.Lib.cut
  split
  · simp only [List.length_take, List.length_drop]; omega
  · simp
end

open Go.Shelf Go.Proofs in
theorem cut_sound {P : Program} {ρ : Go.Shelf.Ren} (he : Enters P (ρ.f 145)) (L : Lays.n145 P ρ) (hT : ∀ w, Tabs.p w → ∃ m, w.cell? ⟨(ρ.g 1), 0, none⟩ = some (.int .i64 m)) : SoundIn P (ρ.f 145) cutJ where
  enters := he
  calls := by
    intro N k avs vs v hp' nx' hk hN hargs hu hr
    simp only [cutJ] at hr
    split at hr
    · rename_i x c
      obtain ⟨q, r, e1, h1, q2, r2, e2, h2, h3⟩ := hargs
      have h3 : r2 = [] := h3
      subst h3; subst e2
      obtain ⟨a, e3, h4, h5⟩ := arel_str h1
      obtain ⟨b, e4, h6, h7⟩ := arel_str h2
      subst e3; subst e4
      have hvs : vs = #[.string a, .string b] := by apply Array.ext'; rw [e1]
      rw [hvs]
      obtain ⟨u, e5, e6⟩ := one_of h6
      subst e5; subst e6
      unfold gate at hr
      split at hr
      · rename_i hg
        simp only [Option.some.injEq, Prod.mk.injEq] at hr
        obtain ⟨g1, g2, g3⟩ := hr
        subst g1; subst g2; subst g3
        simp only [decide_eq_true_eq] at hg
        have hsz : a.size < 4294967281 := by rw [← bytesOf_len, ← h4]; exact hg
        obtain ⟨m, hm⟩ := hT k.w hk.xlow.2.1
        refine (Any.strings_Cut L a ⟨#[u]⟩ m k.w hsz hm).mono fun e w' ⟨q1, n, q3⟩ => ?_
        subst q1; subst q3
        have hcut := cut_eq u a.data.toList
        have hx : x = a.data.toList.map fun b => (b.toNat : Int) := h4
        rw [← hx] at hcut
        obtain ⟨l1, l2⟩ := lcut_len a.data.toList [u]
        have hal : a.data.toList.length = a.size := Array.length_toList
        refine quiet_end hk hN hu ⟨rfl, rfl, rfl, Nat.le_refl _, fun _ _ => rfl⟩ ?_
        rw [hcut]
        refine ⟨_, rfl, _, _, rfl, prel_str rfl ?_, _, _, rfl, prel_str rfl ?_, _, _, rfl, prel_bool, rfl⟩
        · show (Go.Lib.cut a.data.toList [u]).1.toArray.size ≤ MAXL
          rw [List.size_toArray]; simp only [MAXL]; omega
        · show (Go.Lib.cut a.data.toList [u]).2.1.toArray.size ≤ MAXL
          rw [List.size_toArray]; simp only [MAXL]; omega
      · cases hr
    · cases hr

end Go.Ab
