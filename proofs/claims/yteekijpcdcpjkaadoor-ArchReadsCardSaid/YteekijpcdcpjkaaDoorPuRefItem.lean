/-
  PLAIN: .. and by the reference.
-/
import Derived.Test.YteekijpcdcpjkaaDoorPuReadItem
set_option linter.unusedVariables false
set_option linter.unusedSimpArgs false
namespace Go.Proofs.YteekijpcdcpjkaaDoor
open Go Go.Ab

theorem bad_ref (x0 x1 : Int) (pb : Bool) (size st : Nat) :
    (if (!decide (x0 = 105)) = true then some true else if decide (x1 > 1) = true then some true else
      if (!pb) = true then some true else if decide ((size : Int) > 2048) = true then some true else if decide (x1 = 0) = true then some (!decide ((st : Int) = (size : Int))) else some false : Option Bool) =
      some (decide (x0 ≠ 105 ∨ x1 > 1 ∨ pb = false ∨ size > 2048 ∨ (x1 = 0 ∧ size ≠ st))) := by
  rw [← bad_if]
  cases pb with
  | true =>
    simp only [Bool.not_true, Bool.false_eq_true, if_false, if_true, decide_true]
    have : decide ((st : Int) = (size : Int)) = decide ((size : Int) = (st : Int)) := by
      rw [decide_eq_decide]; omega
    rw [this]
  | false => rfl

theorem itemAt_eq (N : Nat) (b : List Int) (a : Nat) (hb : Bytes b) (hl : b.length ≤ 65536) (ha : a ≤ 281474976710656) (hN : 1048577 < N) : wrackref2_ItemAt N b (a : Int) = some (itemI b a) := by
  unfold wrackref2_ItemAt itemI
  by_cases hlt : b.length < a
  · rw [if_pos (by simp; omega), if_pos hlt]
  rw [if_neg (by simp; omega), if_neg hlt, gate_pos (bounds_of (by omega) (by omega) (by omega))]
  have hcut : cut b (a : Int) (b.length : Int) = b.drop a := by
    rw [cut_part b a (b.length - a) _ _ rfl (by omega)]
    unfold partB
    rw [List.take_of_length_le (by rw [List.length_drop]; exact Nat.le_refl _)]
  rw [hcut]
  have hx : Bytes (b.drop a) := fun y hy => hb y (List.mem_of_mem_drop hy)
  have hxl : (b.drop a).length ≤ 65536 := by rw [List.length_drop]; omega
  generalize b.drop a = x at *
  unfold itemX
  have g2 : getI (0 : Int) x 2 = x.getD 2 0 := getI_nat 0 x 2
  have g1 : getI (0 : Int) x 1 = x.getD 1 0 := getI_nat 0 x 1
  have g0 : getI (0 : Int) x 0 = x.getD 0 0 := getI_nat 0 x 0
  simp only [g0, g1, g2]
  by_cases h3 : x.length < 3
  · have e : (if decide (((x.length : Nat) : Int) < 3) = true then some true else gate (inR 2 (x.length : Int)) (some (decide (IntKind.wrap .i64 ((x.length : Int) - 11) < IntKind.wrap .i64 (x.getD 2 0)))) none : Option Bool) = some true := by
      rw [if_pos (by simp; omega)]
    rw [bindO_of e, if_pos rfl, if_pos (Or.inl h3)]
  have hn := hx _ (getD_mem_b (show 2 < x.length by omega))
  have h1b := hx _ (getD_mem_b (show 1 < x.length by omega))
  have h0b := hx _ (getD_mem_b (show 0 < x.length by omega))
  obtain ⟨n, hnn⟩ := Int.eq_ofNat_of_zero_le hn.1
  have hn256 : n < 256 := by omega
  rw [hnn] at *
  have wn : IntKind.wrap .i64 (n : Int) = (n : Int) := w64 (by omega) (by omega)
  have w11 : IntKind.wrap .i64 ((11 : Int) + (n : Int)) = ((11 + n : Nat) : Int) := by rw [w64 (by omega) (by omega)]; omega
  have w3 : IntKind.wrap .i64 ((3 : Int) + (n : Int)) = ((3 + n : Nat) : Int) := by rw [w64 (by omega) (by omega)]; omega
  have w5 : IntKind.wrap .i64 ((5 : Int) + (n : Int)) = ((5 + n : Nat) : Int) := by rw [w64 (by omega) (by omega)]; omega
  have w7 : IntKind.wrap .i64 ((7 : Int) + (n : Int)) = ((7 + n : Nat) : Int) := by rw [w64 (by omega) (by omega)]; omega
  have wl : IntKind.wrap .i64 ((x.length : Int) - 11) = (x.length : Int) - 11 := w64 (by omega) (by omega)
  have e : (if decide (((x.length : Nat) : Int) < 3) = true then some true else gate (inR 2 (x.length : Int)) (some (decide (IntKind.wrap .i64 ((x.length : Int) - 11) < IntKind.wrap .i64 (n : Int)))) none : Option Bool) = some (decide ((x.length : Int) < 11 + (n : Int))) := by
    rw [if_neg (by simp; omega), gate_pos (inR_of (by omega) (by omega)), wn, wl]
    congr 1
    rw [decide_eq_decide]
    omega
  rw [bindO_of e]
  by_cases h11 : (x.length : Int) < 11 + (n : Int)
  · rw [if_pos (by simpa using h11), if_pos (Or.inr h11)]
  rw [if_neg (by simpa using h11), if_neg (by rintro (h | h); exact h3 h; exact h11 h)]
  simp only [wn, w11, w3, w5, w7, wl, Int.toNat_natCast]
  have p1 : cut x (3 : Int) ((3 + n : Nat) : Int) = partB x 3 n := cut_part x 3 n _ _ rfl (by omega)
  have p2 : cut x ((3 + n : Nat) : Int) ((5 + n : Nat) : Int) = partB x (3 + n) 2 := cut_part x (3 + n) 2 _ _ rfl (by omega)
  have p3 : cut x ((5 + n : Nat) : Int) ((7 + n : Nat) : Int) = partB x (5 + n) 2 := cut_part x (5 + n) 2 _ _ rfl (by omega)
  have p4 : cut x ((7 + n : Nat) : Int) ((11 + n : Nat) : Int) = partB x (7 + n) 4 := cut_part x (7 + n) 4 _ _ rfl (by omega)
  have q2 := le_eq N _ (part_bytes hx (3 + n) 2) (Nat.le_trans (partB_len _ _ _) (by decide)) hN
  have q3 := le_eq N _ (part_bytes hx (5 + n) 2) (Nat.le_trans (partB_len _ _ _) (by decide)) hN
  have q4 := le_eq N _ (part_bytes hx (7 + n) 4) (Nat.le_trans (partB_len _ _ _) (by decide)) hN
  have hs2 := num2_lt hx (3 + n)
  have hs3 := num2_lt hx (5 + n)
  have hpl : (partB x 3 n).length ≤ 1048576 := Nat.le_trans (partB_len _ _ _) (by omega)
  rw [gate_pos (inR_of (by omega) (by omega)), gate_pos (bounds_of (by omega) (by omega) (by omega)), p1, gate_pos (bounds_of (by omega) (by omega) (by omega)), p2, bindO_of q2, gate_pos (bounds_of (by omega) (by omega) (by omega)), p3, bindO_of q3]
  have hb7 : bounds (x.length : Int) ((7 + n : Nat) : Int) ((11 + n : Nat) : Int) = true := bounds_of (by omega) (by omega) (by omega)
  simp only [gate_pos hb7, p4, q4]
  generalize hsz : numB (partB x (3 + n) 2) = size at *
  generalize hst : numB (partB x (5 + n) 2) = st at *
  generalize numB (partB x (7 + n) 4) = crc
  have hin0 : inR (0 : Int) (x.length : Int) = true := inR_of (by omega) (by omega)
  have hin1 : inR (1 : Int) (x.length : Int) = true := inR_of (by omega) (by omega)
  have ec : (gate (inR (0 : Int) (x.length : Int)) (if (!decide (x.getD 0 0 = 105)) = true then some true else gate (inR (1 : Int) (x.length : Int)) (if decide (x.getD 1 0 > 1) = true then some true else
      bindO (wrackref2_Way N (partB x 3 n)) (fun r => if (!r) = true then some true else if decide ((size : Int) > 2048) = true then some true else gate (inR (1 : Int) (x.length : Int)) (if decide (x.getD 1 0 = 0) = true then some (!decide ((st : Int) = (size : Int))) else some false) none) none) none) none : Option Bool) =
      some (decide (x.getD 0 0 ≠ 105 ∨ x.getD 1 0 > 1 ∨ pathB (partB x 3 n) = false ∨ size > 2048 ∨ (x.getD 1 0 = 0 ∧ size ≠ st))) := by
    rw [gate_pos hin0, gate_pos hin1, bindO_of (way_eq N _ hpl hN), gate_pos hin1]
    exact bad_ref _ _ _ _ _
  rw [bindO_of ec]
  by_cases hbad : x.getD 0 0 ≠ 105 ∨ x.getD 1 0 > 1 ∨ pathB (partB x 3 n) = false ∨ size > 2048 ∨ (x.getD 1 0 = 0 ∧ size ≠ st)
  · rw [if_pos (decide_eq_true hbad), if_pos hbad]
  rw [if_neg (by rw [decide_eq_false hbad]; decide), if_neg hbad]
  have wl2 : IntKind.wrap .i64 ((x.length : Int) - 11 - (n : Int)) = (x.length : Int) - 11 - (n : Int) := w64 (by omega) (by omega)
  have w8 : IntKind.wrap .i64 (((11 + n : Nat) : Int) + (st : Int)) = ((11 + n + st : Nat) : Int) := by rw [w64 (by omega) (by omega)]; omega
  rw [wl2, w8]
  by_cases hsh : x.length < 11 + n + st
  · rw [if_pos (by simp; omega), if_pos hsh]
  rw [if_neg (by simp; omega), if_neg hsh, gate_pos (bounds_of (by omega) (by omega) (by omega))]
  have p5 : cut x ((11 + n : Nat) : Int) ((11 + n + st : Nat) : Int) = partB x (11 + n) st := cut_part x (11 + n) st _ _ rfl (by omega)
  have hraw := part_bytes hx (11 + n) st
  have hrl : (partB x (11 + n) st).length ≤ 65536 := Nat.le_trans (partB_len _ _ _) (by omega)
  rw [p5, bindO_of (clone_eq' N _ (by omega)), gate_pos hin1]
  generalize hrw : partB x (11 + n) st = raw at *
  have wa : IntKind.wrap .i64 (IntKind.wrap .i64 (IntKind.wrap .i64 ((a : Int) + 11) + (n : Int)) + (st : Int)) = ((a + 11 + n + st : Nat) : Int) := by
    rw [w64 (x := (a : Int) + 11) (by omega) (by omega), w64 (x := (a : Int) + 11 + (n : Int)) (by omega) (by omega), w64 (by omega) (by omega)]
    omega
  rw [wa]
  by_cases hw : x.getD 1 0 = 1
  · rw [if_pos (by simpa using hw), if_pos hw, bindO_of (unran_eq N raw (size : Int) (by omega) (by omega) hraw)]
    have hul : (if raw.length % 2 = 1 then (([], 3) : List Int × Int) else unrun (size : Int) raw []).1.length ≤ 255 * 65536 := by
      split
      · simp
      · have := unrun_len (size : Int) raw.length raw [] (Nat.le_refl _) hraw
        simp only [List.length_nil, Nat.zero_add] at this
        exact Nat.le_trans this (Nat.mul_le_mul_left _ hrl)
    generalize (if raw.length % 2 = 1 then (([], 3) : List Int × Int) else unrun (size : Int) raw []) = u at *
    have eu : (if (!decide (u.2 = 0)) = true then some true else some (!decide ((u.1.length : Int) = (size : Int))) : Option Bool) = some (decide (u.2 ≠ 0 ∨ u.1.length ≠ size)) := bad_u _ _ _
    rw [bindO_of eu]
    by_cases hu : u.2 ≠ 0 ∨ u.1.length ≠ size
    · rw [if_pos (decide_eq_true hu), if_pos hu]
    rw [if_neg (by rw [decide_eq_false hu]; decide), if_neg hu]
    have hlen : u.1.length = size := by
      by_cases c : u.1.length = size
      · exact c
      · exact absurd (Or.inr c) hu
    have hs48 : size ≤ 2048 := by
      by_cases c : size ≤ 2048
      · exact c
      · exact absurd (Or.inr (Or.inr (Or.inr (Or.inl (by omega))))) hbad
    rw [bindO_of (refCrc_eq N u.1 (by omega) (by omega) (by omega))]
    simp only [bindO]
    by_cases hcr : crcOf u.1 = (crc : Int)
    · rw [if_neg (by simpa using hcr), if_neg (by simpa using hcr)]
    · rw [if_pos (by simpa using hcr), if_pos hcr]
  · rw [if_neg (by simpa using hw), if_neg hw, bindO_of (refCrc_eq N raw (by omega) (by omega) (by omega))]
    simp only [bindO]
    by_cases hcr : crcOf raw = (crc : Int)
    · rw [if_neg (by simpa using hcr), if_neg (by simpa using hcr)]
    · rw [if_pos (by simpa using hcr), if_pos hcr]

end Go.Proofs.YteekijpcdcpjkaaDoor
