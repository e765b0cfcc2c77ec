/-
  PLAIN: numbers are read back from bytes, the lowest first.
-/
import Derived.Test.YteekijpcdcpjkaaDoorAbPlain
import Derived.Test.YteekijpcdcpjkaaDoorPu
set_option linter.unusedVariables false
set_option linter.unusedSimpArgs false
namespace Go.Proofs.YteekijpcdcpjkaaDoor
open Go Go.Ab

def numB (bs : List Int) : Nat := bs.foldr (fun c a => a * 256 + c.toNat) 0

theorem numB_lt : ∀ bs : List Int, (∀ x ∈ bs, 0 ≤ x ∧ x < 256) → numB bs < 256 ^ bs.length := by
  intro bs
  induction bs with
  | nil => intro _; decide
  | cons x r ih =>
    intro h
    have h1 := ih fun y hy => h y (by simp [hy])
    have h2 := h x (by simp)
    show numB r * 256 + x.toNat < 256 ^ (r.length + 1)
    rw [Nat.pow_succ]
    omega

theorem numB_snoc (c : Int) : ∀ a : List Int, numB (a ++ [c]) = numB a + c.toNat * 256 ^ a.length := by
  intro a
  induction a with
  | nil => simp [numB]
  | cons x r ih =>
    show numB (r ++ [c]) * 256 + x.toNat = numB r * 256 + x.toNat + c.toNat * 256 ^ (r.length + 1)
    rw [ih, Nat.pow_succ, Nat.add_mul, Nat.mul_assoc]
    omega

theorem or8 (n c : Nat) (hn : n < 281474976710656) (hc : c < 256) : bitOr .i64 (shlI .i64 (n : Int) 8) (c : Int) = ((n * 256 + c : Nat) : Int) := by
  have h1 : shlI .i64 (n : Int) 8 = ((n * 256 : Nat) : Int) := by
    unfold shlI
    have e : (2 : Int) ^ (min ((8 : Int)).toNat (IntKind.bits .i64)) = 256 := by decide
    rw [e, w64 (by omega) (by omega)]
    omega
  rw [h1]
  unfold bitOr
  have e : (BitVec.ofInt (IntKind.bits .i64) ((n * 256 : Nat) : Int) ||| BitVec.ofInt (IntKind.bits .i64) (c : Int)).toNat = n * 256 + c := by
    show (BitVec.ofInt 64 ((n * 256 : Nat) : Int) ||| BitVec.ofInt 64 (c : Int)).toNat = n * 256 + c
    rw [BitVec.toNat_or]
    have a : (BitVec.ofInt 64 ((n * 256 : Nat) : Int)).toNat = n * 256 := by
      rw [BitVec.toNat_ofInt]
      omega
    have b : (BitVec.ofInt 64 (c : Int)).toNat = c := by
      rw [BitVec.toNat_ofInt]
      omega
    rw [a, b]
    have := Nat.two_pow_add_eq_or_of_lt (i := 8) (a := n) (b := c) hc
    have e2 : 2 ^ 8 * n = n * 256 := by omega
    rw [e2] at this
    exact this.symm
  rw [e, w64 (by omega) (by omega)]

theorem r0_num {R : Type} (N : Nat) (s : R) (again : (Int × Unit) → R) (x : Int × Int) (acc c : Nat) (hc : x.2 = (c : Int)) (h : c < 256) (ha : acc < 281474976710656) :
    arch_number.r0 N s () x again ((acc : Int), ()) = again (((acc * 256 + c : Nat) : Int), ()) := by
  unfold arch_number.r0
  simp only
  rw [gate_pos (by decide), hc, w64 (by omega) (by omega), or8 acc c ha h]

theorem fold_num {R : Type} (N : Nat) (s : R) (done : (Int × Unit) → R) : ∀ (l : List (Int × Int)) (acc j : Nat), (∀ x ∈ l, 0 ≤ x.2 ∧ x.2 < 256) → acc < 256 ^ j → j + l.length ≤ 6 →
    foldR (arch_number.r0 N s ()) done l ((acc : Int), ()) = done (((l.foldl (fun a x => a * 256 + x.2.toNat) acc : Nat) : Int), ()) := by
  intro l
  induction l with
  | nil => intro acc j _ _ _; rfl
  | cons x r ih =>
    intro acc j hx ha hj
    obtain ⟨h1, h2⟩ := hx x (by simp)
    obtain ⟨c, hc⟩ := Int.eq_ofNat_of_zero_le h1
    have hp : 256 ^ j ≤ 256 ^ 5 := Nat.pow_le_pow_right (by decide) (by simp at hj; omega)
    have hp : 256 ^ j ≤ 1099511627776 := hp
    show arch_number.r0 N s () x (foldR (arch_number.r0 N s ()) done r) ((acc : Int), ()) = _
    rw [r0_num N s _ x acc c hc (by omega) (by omega), ih (acc * 256 + c) (j + 1) (fun y hy => hx y (by simp [hy])) (by rw [Nat.pow_succ]; omega) (by simp at hj; omega)]
    simp only [List.foldl_cons, hc, Int.toNat_natCast]

theorem backs_snd (bs : List Int) : (backs bs).map Prod.snd = bs.reverse := by
  unfold backs
  apply List.ext_getElem
  · simp
  · intro i h1 h2
    simp only [List.length_map, List.length_range] at h1
    simp only [List.getElem_map, List.getElem_range, List.getElem_reverse]
    rw [List.getD_eq_getElem?_getD, List.getElem?_eq_getElem (by omega)]
    rfl

theorem number_eq (N : Nat) (bs : List Int) (hb : ∀ x ∈ bs, 0 ≤ x ∧ x < 256) (hl : bs.length ≤ 6) : arch_number N bs = some ((numB bs : Nat) : Int) := by
  unfold arch_number
  have h1 : backGo bs = some (backs bs) := by unfold backGo; rw [if_pos (by omega)]
  rw [bindO_of h1]
  have h2 : ∀ x ∈ backs bs, 0 ≤ x.2 ∧ x.2 < 256 := by
    intro x hx
    have : x.2 ∈ (backs bs).map Prod.snd := List.mem_map.2 ⟨x, hx, rfl⟩
    rw [backs_snd] at this
    exact hb _ (by simpa using this)
  have := fold_num N (none : Option Int) (fun x => some x.1) (backs bs) 0 0 h2 (by decide) (by simp [backs]; exact hl)
  rw [show ((0 : Nat) : Int) = (0 : Int) from rfl] at this
  rw [this]
  congr 2
  have h3 : (backs bs).foldl (fun a x => a * 256 + x.2.toNat) 0 = ((backs bs).map Prod.snd).foldl (fun a c => a * 256 + c.toNat) 0 := by
    rw [List.foldl_map]
  rw [h3, backs_snd, List.foldl_reverse]
  rfl

theorem le_eq (N : Nat) (bs : List Int) (hb : ∀ x ∈ bs, 0 ≤ x ∧ x < 256) (hl : bs.length ≤ 6) (hN : 1048577 < N) : wrackref2_le N bs = some ((numB bs : Nat) : Int) := by
  unfold wrackref2_le
  refine iter_rule (fun v => ∃ i : Nat, v = (((numB (bs.take i) : Nat) : Int), ((256 ^ i : Nat) : Int), (i : Int), ()) ∧ i ≤ bs.length) (fun v => bs.length - v.2.2.1.toNat) (fun o => o = some ((numB bs : Nat) : Int)) ?_ N _ ⟨0, rfl, Nat.zero_le _⟩ (by simp only; omega)
  rintro v again ⟨i, rfl, hi⟩ hag
  unfold wrackref2_le.s0
  simp only [decide_eq_true_eq]
  by_cases hlt : i < bs.length
  · have hm : bs.getD i 0 ∈ bs := by
      rw [List.getD_eq_getElem?_getD, List.getElem?_eq_getElem hlt]; exact List.getElem_mem hlt
    obtain ⟨h1, h2⟩ := hb _ hm
    obtain ⟨c, hc⟩ := Int.eq_ofNat_of_zero_le h1
    have hp : 256 ^ i ≤ 256 ^ 5 := Nat.pow_le_pow_right (by decide) (by omega)
    have hp : 256 ^ i ≤ 1099511627776 := hp
    have hnl := numB_lt (bs.take i) (fun x hx => hb x (List.mem_of_mem_take hx))
    have htl : (bs.take i).length = i := by rw [List.length_take]; omega
    rw [htl] at hnl
    have hcc : c < 256 := by omega
    have hmul : c * 256 ^ i ≤ 255 * 1099511627776 := Nat.mul_le_mul (by omega) hp
    have e1 : (c : Int) * ((256 ^ i : Nat) : Int) = ((c * 256 ^ i : Nat) : Int) := by rw [Int.natCast_mul]
    have e2 : ((numB (bs.take i) : Nat) : Int) + ((c * 256 ^ i : Nat) : Int) = ((numB (bs.take (i + 1)) : Nat) : Int) := by
      have : bs.take (i + 1) = bs.take i ++ [bs.getD i 0] := by
        rw [List.take_add_one, List.getElem?_eq_getElem hlt, List.getD_eq_getElem?_getD, List.getElem?_eq_getElem hlt]
        rfl
      rw [this, numB_snoc, htl, hc, Int.toNat_natCast]
      omega
    have hnl2 : numB (bs.take (i + 1)) < 2 ^ 60 := by omega
    rw [if_pos (by omega), gate_pos (inR_of (by omega) (by omega)), getI_nat, hc, w64 (x := (c : Int)) (by omega) (by omega), e1, w64 (x := ((c * 256 ^ i : Nat) : Int)) (by omega) (by omega), e2, w64 (x := ((numB (bs.take (i + 1)) : Nat) : Int)) (by omega) (by omega)]
    have e3 : ((256 ^ i : Nat) : Int) * 256 = ((256 ^ (i + 1) : Nat) : Int) := by rw [Nat.pow_succ]; omega
    rw [e3, w64 (x := ((256 ^ (i + 1) : Nat) : Int)) (by omega) (by rw [Nat.pow_succ]; omega), w64 (by omega) (by omega)]
    exact hag _ ⟨i + 1, by simp, by omega⟩ (by simp only; omega)
  · rw [if_neg (by omega)]
    have : i = bs.length := by omega
    subst this
    rw [List.take_length]

end Go.Proofs.YteekijpcdcpjkaaDoor
