/-
  PLAIN: an entry of an archive is read alike by the program and by the reference.
-/
import Derived.Test.YteekijpcdcpjkaaDoorPuReadNum
import Derived.Test.YteekijpcdcpjkaaDoorPuRunsBack
import Derived.Test.YteekijpcdcpjkaaDoorPuCrc
import Derived.Test.YteekijpcdcpjkaaDoorPuNames
set_option linter.unusedVariables false
set_option linter.unusedSimpArgs false
namespace Go.Proofs.YteekijpcdcpjkaaDoor
open Go Go.Ab

/-- n bytes from lo on -/
def partB (x : List Int) (lo n : Nat) : List Int := (x.drop lo).take n
def Bytes (b : List Int) : Prop := ∀ x ∈ b, 0 ≤ x ∧ x < 256

theorem cut_part (x : List Int) (lo n : Nat) (l h : Int) (hl : l = lo) (hh : h = lo + n) : cut x l h = partB x lo n := by
  subst hl; subst hh
  have := cut_nat x lo (lo + n) (by omega)
  rw [show ((lo + n : Nat) : Int) = (lo : Int) + n by omega] at this
  rw [this, Nat.add_sub_cancel_left]
  rfl
theorem part_bytes {x : List Int} (h : Bytes x) (lo n : Nat) : Bytes (partB x lo n) := fun y hy => h y (List.mem_of_mem_drop (List.mem_of_mem_take hy))
theorem partB_len (x : List Int) (lo n : Nat) : (partB x lo n).length ≤ n := by
  unfold partB
  rw [List.length_take]
  omega
theorem partB_len' (x : List Int) (lo n : Nat) (h : lo + n ≤ x.length) : (partB x lo n).length = n := by
  unfold partB
  rw [List.length_take, List.length_drop]
  omega
theorem num2_lt {x : List Int} (h : Bytes x) (lo : Nat) : numB (partB x lo 2) < 65536 := by
  have h1 := numB_lt _ (part_bytes h lo 2)
  have h2 : 256 ^ (partB x lo 2).length ≤ 256 ^ 2 := Nat.pow_le_pow_right (by decide) (partB_len x lo 2)
  have h2 : 256 ^ (partB x lo 2).length ≤ 65536 := h2
  omega

/-- an entry at the beginning of x: it, and how long it is -/
def itemX (x : List Int) (at_ : Nat) : (List Int × List Int) × Int × Int :=
  if x.length < 3 ∨ (x.length : Int) < 11 + x.getD 2 0 then (([], []), 0, 15) else
  let n := (x.getD 2 0).toNat
  let path := partB x 3 n
  let size := numB (partB x (3 + n) 2)
  let st := numB (partB x (5 + n) 2)
  if x.getD 0 0 ≠ 105 ∨ x.getD 1 0 > 1 ∨ pathB path = false ∨ size > 2048 ∨ (x.getD 1 0 = 0 ∧ size ≠ st) then (([], []), 0, 3)
  else if x.length < 11 + n + st then (([], []), 0, 15)
  else
    let raw := partB x (11 + n) st
    let crc := ((numB (partB x (7 + n) 4) : Nat) : Int)
    if x.getD 1 0 = 1 then
      (let u := if raw.length % 2 = 1 then ([], 3) else unrun (size : Int) raw []
       if u.2 ≠ 0 ∨ u.1.length ≠ size then (([], []), 0, 3) else if crcOf u.1 ≠ crc then (([], []), 0, 13) else ((path, u.1), ((at_ + 11 + n + st : Nat) : Int), 0))
    else if crcOf raw ≠ crc then (([], []), 0, 13) else ((path, raw), ((at_ + 11 + n + st : Nat) : Int), 0)

def itemI (b : List Int) (at_ : Nat) : (List Int × List Int) × Int × Int := if b.length < at_ then (([], []), 0, 3) else itemX (b.drop at_) at_

theorem clone_eq' (N : Nat) (b : List Int) (hb : b.length ≤ 1048576) : slices_Clone_byte N b = some b := by
  unfold slices_Clone_byte
  rw [gate_pos (room_of (by simp; omega) (by simp; omega))]
  rfl

theorem getD_mem_b {x : List Int} {i : Nat} (h : i < x.length) : x.getD i 0 ∈ x := by
  rw [List.getD_eq_getElem?_getD, List.getElem?_eq_getElem h]
  exact List.getElem_mem h

theorem bad_if (x0 x1 : Int) (pb : Bool) (size st : Nat) :
    (if (!decide (x0 = 105)) = true then some true else if decide (x1 > 1) = true then some true else
      if (!decide ((if pb = true then (0 : Int) else 6) = (0 : Int))) = true then some true else if decide ((size : Int) > 2048) = true then some true else if decide (x1 = 0) = true then some (!decide ((size : Int) = (st : Int))) else some false : Option Bool) =
      some (decide (x0 ≠ 105 ∨ x1 > 1 ∨ pb = false ∨ size > 2048 ∨ (x1 = 0 ∧ size ≠ st))) := by
  by_cases c1 : x0 = 105
  · by_cases c2 : x1 > 1
    · simp [c1, c2]
    · cases pb with
      | true =>
        by_cases c4 : size > 2048
        · have c4' : (size : Int) > 2048 := by omega
          simp [c1, c2, c4, c4']
        · have c4' : ¬ ((size : Int) > 2048) := by omega
          by_cases c5 : x1 = 0
          · by_cases c6 : size = st
            · subst c6
              have d1 : ¬ (2048 < size) := by omega
              have d2 : ¬ ((2048 : Int) < (size : Int)) := by omega
              simp [c1, c5, d1, d2]
            · have c6' : ¬ ((size : Int) = (st : Int)) := by omega
              simp [c1, c4, c4', c5, c6, c6']
          · simp [c1, c2, c4, c4', c5]
      | false => simp [c1, c2]
  · simp [c1]

theorem bad_u (u2 : Int) (len size : Nat) : (if (!decide (u2 = 0)) = true then some true else some (!decide ((len : Int) = (size : Int))) : Option Bool) = some (decide (u2 ≠ 0 ∨ len ≠ size)) := by
  by_cases c1 : u2 = 0
  · by_cases c2 : len = size
    · subst c2; simp [c1]
    · have d : ¬ ((len : Int) = (size : Int)) := by omega
      simp [c1, c2, d]
  · simp [c1]

theorem one_eq (N : Nat) (b : List Int) (a : Nat) (hb : Bytes b) (hl : b.length ≤ 65536) (ha : a ≤ 281474976710656) (hN : 1048577 < N) : arch_one N b (a : Int) = some (itemI b a) := by
  unfold arch_one itemI
  have h0 : (if decide ((a : Int) < 0) = true then some true else some (decide ((a : Int) > (b.length : Int))) : Option Bool) = some (decide (b.length < a)) := by
    rw [if_neg (by simp), Option.some.injEq, decide_eq_decide]
    omega
  rw [bindO_of h0]
  by_cases hlt : b.length < a
  · rw [if_pos (by simpa using hlt), if_pos hlt]
  rw [if_neg (by simpa using hlt), if_neg hlt, gate_pos (bounds_of (by omega) (by omega) (by omega))]
  have hcut : cut b (a : Int) (b.length : Int) = b.drop a := by
    rw [cut_part b a (b.length - a) _ _ rfl (by omega)]
    unfold partB
    rw [List.take_of_length_le (by rw [List.length_drop]; exact Nat.le_refl _)]
  rw [hcut]
  have hx : Bytes (b.drop a) := fun y hy => hb y (List.mem_of_mem_drop hy)
  have hxl : (b.drop a).length ≤ 65536 := by rw [List.length_drop]; omega
  generalize b.drop a = x at *
  unfold itemX
  have g2 : getI (0 : Int) x 2 = x.getD 2 0 := getI_nat 0 x 2
  have g1 : getI (0 : Int) x 1 = x.getD 1 0 := getI_nat 0 x 1
  have g0 : getI (0 : Int) x 0 = x.getD 0 0 := getI_nat 0 x 0
  simp only [g0, g1, g2]
  by_cases h3 : x.length < 3
  · have e : (if decide (((x.length : Nat) : Int) < 3) = true then some true else gate (inR 2 (x.length : Int)) (some (decide ((x.length : Int) < IntKind.wrap .i64 (11 + IntKind.wrap .i64 (x.getD 2 0))))) none : Option Bool) = some true := by
      rw [if_pos (by simp; omega)]
    rw [bindO_of e, if_pos rfl, if_pos (Or.inl h3)]
  have hn := hx _ (getD_mem_b (show 2 < x.length by omega))
  have h1b := hx _ (getD_mem_b (show 1 < x.length by omega))
  have h0b := hx _ (getD_mem_b (show 0 < x.length by omega))
  obtain ⟨n, hnn⟩ := Int.eq_ofNat_of_zero_le hn.1
  have hn256 : n < 256 := by omega
  rw [hnn] at *
  have wn : IntKind.wrap .i64 (n : Int) = (n : Int) := w64 (by omega) (by omega)
  have w11 : IntKind.wrap .i64 ((11 : Int) + (n : Int)) = ((11 + n : Nat) : Int) := by rw [w64 (by omega) (by omega)]; omega
  have w3 : IntKind.wrap .i64 ((3 : Int) + (n : Int)) = ((3 + n : Nat) : Int) := by rw [w64 (by omega) (by omega)]; omega
  have w5 : IntKind.wrap .i64 ((5 : Int) + (n : Int)) = ((5 + n : Nat) : Int) := by rw [w64 (by omega) (by omega)]; omega
  have w7 : IntKind.wrap .i64 ((7 : Int) + (n : Int)) = ((7 + n : Nat) : Int) := by rw [w64 (by omega) (by omega)]; omega
  have e : (if decide (((x.length : Nat) : Int) < 3) = true then some true else gate (inR 2 (x.length : Int)) (some (decide ((x.length : Int) < IntKind.wrap .i64 (11 + IntKind.wrap .i64 (n : Int))))) none : Option Bool) = some (decide ((x.length : Int) < 11 + (n : Int))) := by
    rw [if_neg (by simp; omega), gate_pos (inR_of (by omega) (by omega)), wn, w11]
    congr 2
  rw [bindO_of e]
  by_cases h11 : (x.length : Int) < 11 + (n : Int)
  · rw [if_pos (by simpa using h11), if_pos (Or.inr h11)]
  rw [if_neg (by simpa using h11), if_neg (by rintro (h | h); exact h3 h; exact h11 h)]
  simp only [wn, w11, w3, w5, w7, Int.toNat_natCast]
  have p1 : cut x (3 : Int) ((3 + n : Nat) : Int) = partB x 3 n := cut_part x 3 n _ _ rfl (by omega)
  have p2 : cut x ((3 + n : Nat) : Int) ((5 + n : Nat) : Int) = partB x (3 + n) 2 := cut_part x (3 + n) 2 _ _ rfl (by omega)
  have p3 : cut x ((5 + n : Nat) : Int) ((7 + n : Nat) : Int) = partB x (5 + n) 2 := cut_part x (5 + n) 2 _ _ rfl (by omega)
  have p4 : cut x ((7 + n : Nat) : Int) ((11 + n : Nat) : Int) = partB x (7 + n) 4 := cut_part x (7 + n) 4 _ _ rfl (by omega)
  have q2 := number_eq N _ (part_bytes hx (3 + n) 2) (Nat.le_trans (partB_len _ _ _) (by decide))
  have q3 := number_eq N _ (part_bytes hx (5 + n) 2) (Nat.le_trans (partB_len _ _ _) (by decide))
  have q4 := number_eq N _ (part_bytes hx (7 + n) 4) (Nat.le_trans (partB_len _ _ _) (by decide))
  have hs2 := num2_lt hx (3 + n)
  have hs3 := num2_lt hx (5 + n)
  have hpl : (partB x 3 n).length ≤ 1048576 := Nat.le_trans (partB_len _ _ _) (by omega)
  rw [gate_pos (inR_of (by omega) (by omega)), gate_pos (bounds_of (by omega) (by omega) (by omega)), p1, gate_pos (bounds_of (by omega) (by omega) (by omega)), p2, bindO_of q2, gate_pos (bounds_of (by omega) (by omega) (by omega)), p3, bindO_of q3, gate_pos (bounds_of (by omega) (by omega) (by omega)), p4, bindO_of q4]
  generalize hsz : numB (partB x (3 + n) 2) = size at *
  generalize hst : numB (partB x (5 + n) 2) = st at *
  generalize numB (partB x (7 + n) 4) = crc
  have hin0 : inR (0 : Int) (x.length : Int) = true := inR_of (by omega) (by omega)
  have hin1 : inR (1 : Int) (x.length : Int) = true := inR_of (by omega) (by omega)
  have ec : (gate (inR (0 : Int) (x.length : Int)) (if (!decide (x.getD 0 0 = 105)) = true then some true else gate (inR (1 : Int) (x.length : Int)) (if decide (x.getD 1 0 > 1) = true then some true else
      bindO (fs_Path N (partB x 3 n)) (fun r => if (!decide (r = (0 : Int))) = true then some true else if decide ((size : Int) > 2048) = true then some true else gate (inR (1 : Int) (x.length : Int)) (if decide (x.getD 1 0 = 0) = true then some (!decide ((size : Int) = (st : Int))) else some false) none) none) none) none : Option Bool) =
      some (decide (x.getD 0 0 ≠ 105 ∨ x.getD 1 0 > 1 ∨ pathB (partB x 3 n) = false ∨ size > 2048 ∨ (x.getD 1 0 = 0 ∧ size ≠ st))) := by
    rw [gate_pos hin0, gate_pos hin1, bindO_of (path_eq N _ hpl hN), gate_pos hin1]
    exact bad_if _ _ _ _ _
  rw [bindO_of ec]
  by_cases hbad : x.getD 0 0 ≠ 105 ∨ x.getD 1 0 > 1 ∨ pathB (partB x 3 n) = false ∨ size > 2048 ∨ (x.getD 1 0 = 0 ∧ size ≠ st)
  · rw [if_pos (decide_eq_true hbad), if_pos hbad]
  rw [if_neg (by rw [decide_eq_false hbad]; decide), if_neg hbad]
  have w8 : IntKind.wrap .i64 (((11 + n : Nat) : Int) + (st : Int)) = ((11 + n + st : Nat) : Int) := by rw [w64 (by omega) (by omega)]; omega
  rw [w8]
  by_cases hsh : x.length < 11 + n + st
  · rw [if_pos (by simp; omega), if_pos hsh]
  rw [if_neg (by simp; omega), if_neg hsh, gate_pos (bounds_of (by omega) (by omega) (by omega))]
  have p5 : cut x ((11 + n : Nat) : Int) ((11 + n + st : Nat) : Int) = partB x (11 + n) st := cut_part x (11 + n) st _ _ rfl (by omega)
  have hraw := part_bytes hx (11 + n) st
  have hrl : (partB x (11 + n) st).length ≤ 65536 := Nat.le_trans (partB_len _ _ _) (by omega)
  rw [p5, bindO_of (clone_eq' N _ (by omega)), gate_pos hin1]
  generalize hrw : partB x (11 + n) st = raw at *
  have wa : IntKind.wrap .i64 (IntKind.wrap .i64 (IntKind.wrap .i64 ((a : Int) + 11) + (n : Int)) + (st : Int)) = ((a + 11 + n + st : Nat) : Int) := by
    rw [w64 (x := (a : Int) + 11) (by omega) (by omega), w64 (x := (a : Int) + 11 + (n : Int)) (by omega) (by omega), w64 (by omega) (by omega)]
    omega
  rw [wa]
  by_cases hw : x.getD 1 0 = 1
  · rw [if_pos (by simpa using hw), if_pos hw, bindO_of (unpack_eq N raw (size : Int) (by omega) (by omega) hraw ⟨by omega, by omega⟩)]
    have hul : (if raw.length % 2 = 1 then (([], 3) : List Int × Int) else unrun (size : Int) raw []).1.length ≤ 255 * 65536 := by
      split
      · simp
      · have := unrun_len (size : Int) raw.length raw [] (Nat.le_refl _) hraw
        simp only [List.length_nil, Nat.zero_add] at this
        exact Nat.le_trans this (Nat.mul_le_mul_left _ hrl)
    generalize (if raw.length % 2 = 1 then (([], 3) : List Int × Int) else unrun (size : Int) raw []) = u at *
    have eu : (if (!decide (u.2 = 0)) = true then some true else some (!decide ((u.1.length : Int) = (size : Int))) : Option Bool) = some (decide (u.2 ≠ 0 ∨ u.1.length ≠ size)) := by
      exact bad_u _ _ _
    rw [bindO_of eu]
    by_cases hu : u.2 ≠ 0 ∨ u.1.length ≠ size
    · rw [if_pos (decide_eq_true hu), if_pos hu]
    rw [if_neg (by rw [decide_eq_false hu]; decide), if_neg hu]
    have hlen : u.1.length = size := by
      by_cases c : u.1.length = size
      · exact c
      · exact absurd (Or.inr c) hu
    have hs48 : size ≤ 2048 := by
      by_cases c : size ≤ 2048
      · exact c
      · exact absurd (Or.inr (Or.inr (Or.inr (Or.inl (by omega))))) hbad
    rw [bindO_of (sumCrc_eq N u.1 (by omega) (by omega) (by omega))]
    by_cases hcr : crcOf u.1 = (crc : Int)
    · rw [if_neg (by simpa using hcr), if_neg (by simpa using hcr)]
    · rw [if_pos (by simpa using hcr), if_pos hcr]
  · rw [if_neg (by simpa using hw), if_neg hw, bindO_of (sumCrc_eq N raw (by omega) (by omega) (by omega))]
    by_cases hcr : crcOf raw = (crc : Int)
    · rw [if_neg (by simpa using hcr), if_neg (by simpa using hcr)]
    · rw [if_pos (by simpa using hcr), if_pos hcr]

end Go.Proofs.YteekijpcdcpjkaaDoor
