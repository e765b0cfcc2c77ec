/-
  PLAIN: the directory of an archive is read alike by the program and by the reference.
-/
import Derived.Test.YteekijpcdcpjkaaDoorPuReadItem
set_option linter.unusedVariables false
set_option linter.unusedSimpArgs false
namespace Go.Proofs.YteekijpcdcpjkaaDoor
open Go Go.Ab

theorem part_part' (b : List Int) (lo n l m : Nat) (h : l + m ≤ n) : partB (partB b lo n) l m = partB b (lo + l) m := by
  unfold partB
  rw [List.drop_take, List.take_take, List.drop_drop, Nat.min_eq_left (by omega)]
theorem part_get' (b : List Int) (lo n i : Nat) (h : i < n) : (partB b lo n).getD i 0 = b.getD (lo + i) 0 := by
  unfold partB
  rw [List.getD_eq_getElem?_getD, List.getD_eq_getElem?_getD, List.getElem?_take_of_lt h, List.getElem?_drop]

def offAt (b : List Int) (a : Nat) : Nat → Int := fun k => ((numB (partB b (a + 2 + 3 * k) 3) : Nat) : Int)

def placesI (b : List Int) : List Int × Int × Int :=
  if 65536 < b.length then ([], 0, 2) else if b.length < 10 then ([], 0, 15) else
  let a := numB (partB b (b.length - 7) 3)
  if b.getD (b.length - 8) 0 ≠ 101 ∨ b.length < a + 10 ∨ b.getD a 0 ≠ 100 ∨ ((a + 2 : Nat) : Int) + 3 * b.getD (a + 1) 0 ≠ (b.length : Int) - 8 then ([], 0, 3)
  else if crcOf (partB b a (b.length - 8 - a)) ≠ ((numB (partB b (b.length - 4) 4) : Nat) : Int) then ([], 0, 13)
  else ((List.range (b.getD (a + 1) 0).toNat).map (offAt b a), (a : Int), 0)

theorem num3_lt {x : List Int} (h : Bytes x) (lo : Nat) : numB (partB x lo 3) < 16777216 := by
  have h1 := numB_lt _ (part_bytes h lo 3)
  have h2 : 256 ^ (partB x lo 3).length ≤ 256 ^ 3 := Nat.pow_le_pow_right (by decide) (partB_len x lo 3)
  have h2 : 256 ^ (partB x lo 3).length ≤ 16777216 := h2
  omega

theorem places_eq (N : Nat) (b : List Int) (hb : Bytes b) (hN : 1048577 < N) : arch_Places N b = some (placesI b) := by
  unfold arch_Places placesI
  simp only [decide_eq_true_eq]
  by_cases hbig : 65536 < b.length
  · rw [if_pos (by omega), if_pos hbig]
  rw [if_neg (by omega), if_neg hbig]
  by_cases hs : b.length < 10
  · rw [if_pos (by omega), if_pos hs]
  rw [if_neg (by omega), if_neg hs]
  have w8 : IntKind.wrap .i64 ((b.length : Int) - 8) = ((b.length - 8 : Nat) : Int) := by rw [w64 (by omega) (by omega)]; omega
  have w10 : IntKind.wrap .i64 ((b.length : Int) - 10) = ((b.length - 10 : Nat) : Int) := by rw [w64 (by omega) (by omega)]; omega
  have ct : cut b ((b.length - 8 : Nat) : Int) (b.length : Int) = partB b (b.length - 8) 8 := cut_part b (b.length - 8) 8 _ _ rfl (by omega)
  have hl8 : (partB b (b.length - 8) 8).length = 8 := partB_len' b _ _ (by omega)
  simp only [w8, w10, ct, hl8]
  have c1 : cut (partB b (b.length - 8) 8) (1 : Int) (4 : Int) = partB b (b.length - 7) 3 := by
    have h := cut_part (partB b (b.length - 8) 8) 1 3 1 4 rfl rfl
    rw [h, part_part' b _ _ _ _ (by omega)]
    congr 1
    omega
  have c2 : cut (partB b (b.length - 8) 8) (4 : Int) ((8 : Nat) : Int) = partB b (b.length - 4) 4 := by
    have h := cut_part (partB b (b.length - 8) 8) 4 4 4 ((8 : Nat) : Int) rfl rfl
    rw [h, part_part' b _ _ _ _ (by omega)]
    congr 1
    omega
  have g8 : getI (0 : Int) (partB b (b.length - 8) 8) 0 = b.getD (b.length - 8) 0 := by
    have h := getI_nat (0 : Int) (partB b (b.length - 8) 8) 0
    have h : getI (0 : Int) (partB b (b.length - 8) 8) 0 = _ := h
    rw [h, part_get' b _ _ _ (by omega)]; rfl
  have q1 := number_eq N _ (part_bytes hb (b.length - 7) 3) (Nat.le_trans (partB_len _ _ _) (by decide))
  have q2 := number_eq N _ (part_bytes hb (b.length - 4) 4) (Nat.le_trans (partB_len _ _ _) (by decide))
  have ha3 := num3_lt hb (b.length - 7)
  rw [gate_pos (bounds_of (by omega) (by omega) (by omega)), gate_pos (by decide), c1, bindO_of q1]
  generalize hA : numB (partB b (b.length - 7) 3) = a at *
  have e1 : (gate (inR 0 ((8 : Nat) : Int)) (if (!decide (getI (0 : Int) (partB b (b.length - 8) 8) 0 = 101)) = true then some true else some (decide ((a : Int) > ((b.length - 10 : Nat) : Int)))) none : Option Bool) = some (decide (b.getD (b.length - 8) 0 ≠ 101 ∨ b.length < a + 10)) := by
    rw [gate_pos (by decide), g8]
    generalize b.getD (b.length - 8) 0 = t
    by_cases c : t = 101
    · rw [if_neg (by simpa using c), Option.some.injEq, decide_eq_decide]
      omega
    · rw [if_pos (by simpa using c), decide_eq_true (Or.inl c)]
  rw [bindO_of e1]
  by_cases hbad1 : b.getD (b.length - 8) 0 ≠ 101 ∨ b.length < a + 10
  · rw [if_pos (decide_eq_true hbad1), if_pos (by rcases hbad1 with h | h; exact Or.inl h; exact Or.inr (Or.inl h))]
  rw [if_neg (by rw [decide_eq_false hbad1]; decide)]
  have hfit : a + 10 ≤ b.length := by
    by_cases c : b.length < a + 10
    · exact absurd (Or.inr c) hbad1
    · omega
  have h101 : b.getD (b.length - 8) 0 = 101 := by
    by_cases c : b.getD (b.length - 8) 0 = 101
    · exact c
    · exact absurd (Or.inl c) hbad1
  have cd : cut b (a : Int) ((b.length - 8 : Nat) : Int) = partB b a (b.length - 8 - a) := cut_part b a _ _ _ rfl (by omega)
  have hdl : (partB b a (b.length - 8 - a)).length = b.length - 8 - a := partB_len' b _ _ (by omega)
  have gd0 : getI (0 : Int) (partB b a (b.length - 8 - a)) 0 = b.getD a 0 := by
    have h := getI_nat (0 : Int) (partB b a (b.length - 8 - a)) 0
    have h : getI (0 : Int) (partB b a (b.length - 8 - a)) 0 = _ := h
    rw [h, part_get' b _ _ _ (by omega)]; rfl
  have gd1 : getI (0 : Int) (partB b a (b.length - 8 - a)) 1 = b.getD (a + 1) 0 := by
    have h := getI_nat (0 : Int) (partB b a (b.length - 8 - a)) 1
    have h : getI (0 : Int) (partB b a (b.length - 8 - a)) 1 = _ := h
    rw [h, part_get' b _ _ _ (by omega)]
  have hcnt := hb _ (getD_mem_b (show a + 1 < b.length by omega))
  rw [gate_pos (bounds_of (by omega) (by omega) (by omega)), cd, hdl, gd0, gd1]
  obtain ⟨cnt, hc⟩ := Int.eq_ofNat_of_zero_le hcnt.1
  rw [hc] at hcnt ⊢
  have w1 : IntKind.wrap .i64 (cnt : Int) = (cnt : Int) := w64 (by omega) (by omega)
  have w2 : IntKind.wrap .i64 ((3 : Int) * (cnt : Int)) = ((3 * cnt : Nat) : Int) := by rw [w64 (by omega) (by omega)]; omega
  have w3 : IntKind.wrap .i64 ((2 : Int) + ((3 * cnt : Nat) : Int)) = ((2 + 3 * cnt : Nat) : Int) := by rw [w64 (by omega) (by omega)]; omega
  simp only [w1, w2, w3, Int.toNat_natCast]
  have e2 : (gate (inR 0 ((b.length - 8 - a : Nat) : Int)) (if (!decide (b.getD a 0 = 100)) = true then some true else gate (inR 1 ((b.length - 8 - a : Nat) : Int)) (some (!decide (((b.length - 8 - a : Nat) : Int) = ((2 + 3 * cnt : Nat) : Int)))) none) none : Option Bool) = some (decide (b.getD a 0 ≠ 100 ∨ ((a + 2 : Nat) : Int) + 3 * (cnt : Int) ≠ (b.length : Int) - 8)) := by
    rw [gate_pos (inR_of (by omega) (by omega)), gate_pos (inR_of (by omega) (by omega))]
    generalize b.getD a 0 = t
    by_cases c : t = 100
    · rw [if_neg (by simpa using c)]
      by_cases d : b.length - 8 - a = 2 + 3 * cnt
      · have d1 : ((b.length - 8 - a : Nat) : Int) = ((2 + 3 * cnt : Nat) : Int) := by omega
        rw [decide_eq_true d1, decide_eq_false (by rintro (h | h); exact h c; exact h (by omega))]
        rfl
      · have d1 : ¬ ((b.length - 8 - a : Nat) : Int) = ((2 + 3 * cnt : Nat) : Int) := by omega
        rw [decide_eq_false d1, decide_eq_true (Or.inr (by omega))]
        rfl
    · rw [if_pos (by simpa using c), decide_eq_true (Or.inl c)]
  rw [bindO_of e2]
  by_cases hbad2 : b.getD a 0 ≠ 100 ∨ ((a + 2 : Nat) : Int) + 3 * (cnt : Int) ≠ (b.length : Int) - 8
  · rw [if_pos (decide_eq_true hbad2), if_pos (Or.inr (Or.inr hbad2))]
  have hok : ((a + 2 : Nat) : Int) + 3 * (cnt : Int) = (b.length : Int) - 8 := by
    by_cases c : ((a + 2 : Nat) : Int) + 3 * (cnt : Int) = (b.length : Int) - 8
    · exact c
    · exact absurd (Or.inr c) hbad2
  rw [if_neg (by rw [decide_eq_false hbad2]; decide), if_neg (by rintro (h | h | h); exact h h101; omega; exact hbad2 h)]
  rw [bindO_of (sumCrc_eq N _ (by rw [hdl]; omega) (by rw [hdl]; omega) (by omega)), gate_pos (by decide), c2, bindO_of q2]
  by_cases hcr : crcOf (partB b a (b.length - 8 - a)) = ((numB (partB b (b.length - 4) 4) : Nat) : Int)
  · rw [if_neg (by simpa using hcr), if_neg (by simpa using hcr), gate_pos (inR_of (by omega) (by omega))]
    refine iter_rule (fun v => ∃ i : Nat, v = ((List.range i).map (offAt b a), (i : Int), ()) ∧ i ≤ cnt) (fun v => cnt - v.2.1.toNat) (fun o => o = some ((List.range cnt).map (offAt b a), ((a : Int), (0 : Int)))) ?_ N _ ⟨0, rfl, Nat.zero_le _⟩ (by simp only; omega)
    rintro v again ⟨i, rfl, hi⟩ hag
    unfold arch_Places.s0
    simp only [decide_eq_true_eq]
    by_cases hlt : i < cnt
    · have x1 : IntKind.wrap .i64 ((3 : Int) * (i : Int)) = ((3 * i : Nat) : Int) := by rw [w64 (by omega) (by omega)]; omega
      have x2 : IntKind.wrap .i64 ((2 : Int) + ((3 * i : Nat) : Int)) = ((2 + 3 * i : Nat) : Int) := by rw [w64 (by omega) (by omega)]; omega
      have x5 : IntKind.wrap .i64 ((5 : Int) + ((3 * i : Nat) : Int)) = ((5 + 3 * i : Nat) : Int) := by rw [w64 (by omega) (by omega)]; omega
      have cx : cut (partB b a (b.length - 8 - a)) ((2 + 3 * i : Nat) : Int) ((5 + 3 * i : Nat) : Int) = partB b (a + 2 + 3 * i) 3 := by
        rw [cut_part _ (2 + 3 * i) 3 _ _ rfl (by omega), part_part' b _ _ _ _ (by omega)]
        congr 1
        omega
      have qx := number_eq N _ (part_bytes hb (a + 2 + 3 * i) 3) (Nat.le_trans (partB_len _ _ _) (by decide))
      rw [if_pos (by omega), x1, x2, x5, hdl, gate_pos (bounds_of (by omega) (by omega) (by omega)), cx, bindO_of qx, gate_pos (room_of (by simp; omega) (by simp; omega)), w64 (by omega) (by omega)]
      refine hag _ ⟨i + 1, ?_, by omega⟩ (by simp only; omega)
      rw [List.range_succ, List.map_append]
      rfl
    · rw [if_neg (by omega)]
      have : i = cnt := by omega
      subst this
      rfl
  · rw [if_pos (by simpa using hcr), if_pos hcr]

theorem refPlaces_eq (N : Nat) (b : List Int) (hb : Bytes b) (hN : 1048577 < N) : wrackref2_ArchPlaces N b = some (placesI b) := by
  unfold wrackref2_ArchPlaces placesI
  simp only [decide_eq_true_eq]
  by_cases hbig : 65536 < b.length
  · rw [if_pos (by omega), if_pos hbig]
  rw [if_neg (by omega), if_neg hbig]
  by_cases hs : b.length < 10
  · rw [if_pos (by omega), if_pos hs]
  rw [if_neg (by omega), if_neg hs]
  have w8 : IntKind.wrap .i64 ((b.length : Int) - 8) = ((b.length - 8 : Nat) : Int) := by rw [w64 (by omega) (by omega)]; omega
  have w7 : IntKind.wrap .i64 ((b.length : Int) - 7) = ((b.length - 7 : Nat) : Int) := by rw [w64 (by omega) (by omega)]; omega
  have w4 : IntKind.wrap .i64 ((b.length : Int) - 4) = ((b.length - 4 : Nat) : Int) := by rw [w64 (by omega) (by omega)]; omega
  simp only [w8, w7, w4]
  have c1 : cut b ((b.length - 7 : Nat) : Int) ((b.length - 4 : Nat) : Int) = partB b (b.length - 7) 3 := cut_part b _ 3 _ _ rfl (by omega)
  have c2 : cut b ((b.length - 4 : Nat) : Int) (b.length : Int) = partB b (b.length - 4) 4 := cut_part b _ 4 _ _ rfl (by omega)
  have q1 := le_eq N _ (part_bytes hb (b.length - 7) 3) (Nat.le_trans (partB_len _ _ _) (by decide)) hN
  have q2 := le_eq N _ (part_bytes hb (b.length - 4) 4) (Nat.le_trans (partB_len _ _ _) (by decide)) hN
  have ha3 := num3_lt hb (b.length - 7)
  rw [gate_pos (bounds_of (by omega) (by omega) (by omega)), c1, bindO_of q1]
  generalize hA : numB (partB b (b.length - 7) 3) = a at *
  have wa10 : IntKind.wrap .i64 ((a : Int) + 10) = ((a + 10 : Nat) : Int) := by rw [w64 (by omega) (by omega)]; omega
  have wa1 : IntKind.wrap .i64 ((a : Int) + 1) = ((a + 1 : Nat) : Int) := by rw [w64 (by omega) (by omega)]; omega
  have wa2 : IntKind.wrap .i64 ((a : Int) + 2) = ((a + 2 : Nat) : Int) := by rw [w64 (by omega) (by omega)]; omega
  simp only [wa10, wa1, wa2, getI_nat]
  have e1 : (gate (inR ((b.length - 8 : Nat) : Int) (b.length : Int)) (if (!decide (b.getD (b.length - 8) 0 = 101)) = true then some true else if ((a + 10 : Nat) : Int) > (b.length : Int) then some true else gate (inR (a : Int) (b.length : Int)) (if (!decide (b.getD a 0 = 100)) = true then some true else
      gate (inR ((a + 1 : Nat) : Int) (b.length : Int)) (some (!decide (IntKind.wrap .i64 (((a + 2 : Nat) : Int) + IntKind.wrap .i64 (3 * IntKind.wrap .i64 (b.getD (a + 1) 0))) = ((b.length - 8 : Nat) : Int)))) none) none) none : Option Bool) =
      some (decide (b.getD (b.length - 8) 0 ≠ 101 ∨ b.length < a + 10 ∨ b.getD a 0 ≠ 100 ∨ ((a + 2 : Nat) : Int) + 3 * b.getD (a + 1) 0 ≠ (b.length : Int) - 8)) := by
    rw [gate_pos (inR_of (by omega) (by omega))]
    by_cases c1 : b.getD (b.length - 8) 0 = 101
    · rw [if_neg (by simpa using c1)]
      by_cases c2 : b.length < a + 10
      · rw [if_pos (by omega), decide_eq_true (Or.inr (Or.inl c2))]
      · rw [if_neg (by omega), gate_pos (inR_of (by omega) (by omega))]
        by_cases c3 : b.getD a 0 = 100
        · have hcnt := hb _ (getD_mem_b (show a + 1 < b.length by omega))
          generalize hz : b.getD (a + 1) 0 = z at *
          rw [if_neg (by simpa using c3), gate_pos (inR_of (by omega) (by omega)), w64 (x := z) (by omega) (by omega), w64 (x := 3 * z) (by omega) (by omega), w64 (by omega) (by omega)]
          by_cases c4 : ((a + 2 : Nat) : Int) + 3 * z = (b.length : Int) - 8
          · have d : ((a + 2 : Nat) : Int) + 3 * z = ((b.length - 8 : Nat) : Int) := by omega
            rw [decide_eq_true d, decide_eq_false (by rintro (h | h | h | h); exact h c1; exact c2 h; exact h c3; exact h c4)]
            rfl
          · have d : ¬ ((a + 2 : Nat) : Int) + 3 * z = ((b.length - 8 : Nat) : Int) := by omega
            rw [decide_eq_false d, decide_eq_true (Or.inr (Or.inr (Or.inr c4)))]
            rfl
        · rw [if_pos (by simpa using c3), decide_eq_true (Or.inr (Or.inr (Or.inl c3)))]
    · rw [if_pos (by simpa using c1), decide_eq_true (Or.inl c1)]
  rw [bindO_of e1]
  by_cases hbad : b.getD (b.length - 8) 0 ≠ 101 ∨ b.length < a + 10 ∨ b.getD a 0 ≠ 100 ∨ ((a + 2 : Nat) : Int) + 3 * b.getD (a + 1) 0 ≠ (b.length : Int) - 8
  · rw [if_pos (decide_eq_true hbad), if_pos hbad]
  rw [if_neg (by rw [decide_eq_false hbad]; decide), if_neg hbad]
  have hfit : a + 10 ≤ b.length := by
    by_cases c : b.length < a + 10
    · exact absurd (Or.inr (Or.inl c)) hbad
    · omega
  have hok : ((a + 2 : Nat) : Int) + 3 * b.getD (a + 1) 0 = (b.length : Int) - 8 := by
    by_cases c : ((a + 2 : Nat) : Int) + 3 * b.getD (a + 1) 0 = (b.length : Int) - 8
    · exact c
    · exact absurd (Or.inr (Or.inr (Or.inr c))) hbad
  have hcnt := hb _ (getD_mem_b (show a + 1 < b.length by omega))
  obtain ⟨cnt, hc⟩ := Int.eq_ofNat_of_zero_le hcnt.1
  rw [hc] at hcnt hok ⊢
  have cd : cut b (a : Int) ((b.length - 8 : Nat) : Int) = partB b a (b.length - 8 - a) := cut_part b a _ _ _ rfl (by omega)
  have hdl : (partB b a (b.length - 8 - a)).length = b.length - 8 - a := partB_len' b _ _ (by omega)
  rw [gate_pos (bounds_of (by omega) (by omega) (by omega)), cd, bindO_of (refCrc_eq N _ (by rw [hdl]; omega) (by rw [hdl]; omega) (by omega)), gate_pos (bounds_of (by omega) (by omega) (by omega)), c2, bindO_of q2, Int.toNat_natCast]
  by_cases hcr : crcOf (partB b a (b.length - 8 - a)) = ((numB (partB b (b.length - 4) 4) : Nat) : Int)
  · rw [if_neg (by simpa using hcr), if_neg (by simpa using hcr)]
    refine iter_rule (fun v => ∃ i : Nat, v = ((List.range i).map (offAt b a), ((a + 2 + 3 * i : Nat) : Int), ()) ∧ i ≤ cnt) (fun v => b.length - v.2.1.toNat) (fun o => o = some ((List.range cnt).map (offAt b a), ((a : Int), (0 : Int)))) ?_ N _ ⟨0, rfl, Nat.zero_le _⟩ (by simp only; omega)
    rintro v again ⟨i, rfl, hi⟩ hag
    unfold wrackref2_ArchPlaces.s0
    simp only [decide_eq_true_eq, w8]
    by_cases hlt : i < cnt
    · have x3 : IntKind.wrap .i64 (((a + 2 + 3 * i : Nat) : Int) + 3) = ((a + 2 + 3 * (i + 1) : Nat) : Int) := by rw [w64 (by omega) (by omega)]; omega
      have cx : cut b ((a + 2 + 3 * i : Nat) : Int) ((a + 2 + 3 * (i + 1) : Nat) : Int) = partB b (a + 2 + 3 * i) 3 := cut_part _ _ 3 _ _ rfl (by omega)
      have qx := le_eq N _ (part_bytes hb (a + 2 + 3 * i) 3) (Nat.le_trans (partB_len _ _ _) (by decide)) hN
      rw [if_pos (by omega), x3, gate_pos (bounds_of (by omega) (by omega) (by omega)), cx, bindO_of qx, gate_pos (room_of (by simp; omega) (by simp; omega))]
      refine hag _ ⟨i + 1, ?_, by omega⟩ (by simp only; omega)
      rw [List.range_succ, List.map_append]
      rfl
    · rw [if_neg (by omega)]
      have : i = cnt := by omega
      subst this
      rfl
  · rw [if_pos (by simpa using hcr), if_pos hcr]

/-- what is known of the places -/
theorem places_nat (b : List Int) (hb : Bytes b) : (placesI b).2.2 = 0 → b.length ≤ 65536 ∧ (∃ a : Nat, (placesI b).2.1 = (a : Int) ∧ a ≤ b.length) ∧ (placesI b).1.length ≤ 255 ∧ ∀ p ∈ (placesI b).1, ∃ q : Nat, p = (q : Int) ∧ q < 16777216 := by
  unfold placesI
  split
  · intro h; exact absurd h (by decide)
  split
  · intro h; exact absurd h (by decide)
  rename_i h1 h2
  simp only
  split
  · intro h; exact absurd h (by decide)
  rename_i hbad
  split
  · intro h; exact absurd h (by decide)
  intro _
  have hfit : numB (partB b (b.length - 7) 3) + 10 ≤ b.length := by
    by_cases c : b.length < numB (partB b (b.length - 7) 3) + 10
    · exact absurd (Or.inr (Or.inl c)) hbad
    · omega
  have hcnt := hb _ (getD_mem_b (show numB (partB b (b.length - 7) 3) + 1 < b.length by omega))
  refine ⟨by omega, ⟨_, rfl, by omega⟩, by rw [List.length_map, List.length_range]; omega, fun p hp => ?_⟩
  obtain ⟨k, _, rfl⟩ := List.mem_map.1 hp
  exact ⟨_, rfl, num3_lt hb _⟩

end Go.Proofs.YteekijpcdcpjkaaDoor
