/-
  PLAIN LAW: PixBack.
-/
import Derived.Test.YteekijpcdcpjkaaPuPixBack
set_option linter.unusedVariables false
set_option linter.unusedSimpArgs false
namespace Go.Proofs.Yteekijpcdcpjkaa
open Go Go.Ab

theorem picErr_ok {w h : Nat} {dots : List Int} (w1 : 1 ≤ w) (w2 : w ≤ 64) (h1 : 1 ≤ h) (h2 : h ≤ 64) (hl : dots.length = w * h) (hd : ∀ x ∈ dots, 0 ≤ x ∧ x < 16) : picErr w h dots = 0 := by
  unfold picErr
  rw [if_neg (by omega), if_neg (by rw [hl]; simp), if_neg]
  intro ha
  obtain ⟨x, hx, h3⟩ := List.any_eq_true.1 ha
  have := hd x hx
  simp at h3
  omega

theorem rowBytes_ok (ds : List Int) (hds : ∀ x ∈ ds, 0 ≤ x ∧ x < 16) (hl : ds.length ≤ 64) : ∀ x ∈ rowBytes ds, 0 ≤ x ∧ x < 256 := by
  obtain ⟨cs, e1, e2, e3, e4⟩ := row_form ds hds hl
  rw [e1]
  intro x hx
  rcases List.mem_append.1 hx with hx | hx
  · rcases List.mem_cons.1 hx with hx | hx
    · subst hx; omega
    · exact e3 x hx
  · simp only [List.mem_singleton] at hx
    subst hx
    omega

theorem picBytes_ok {w h : Nat} {dots : List Int} (w2 : w ≤ 64) (h2 : h ≤ 64) (hl : dots.length = w * h) (hd : ∀ x ∈ dots, 0 ≤ x ∧ x < 16) : ∀ x ∈ picBytes w h dots, 0 ≤ x ∧ x < 256 := by
  intro x hx
  unfold picBytes at hx
  rcases List.mem_append.1 hx with hx | hx
  · simp only [List.mem_cons, List.not_mem_nil, or_false] at hx
    omega
  · obtain ⟨r, hr, hx⟩ := List.mem_flatMap.1 hx
    have := rowsOf_ok hl hd r hr
    exact rowBytes_ok r this.2 (by omega) x hx

theorem drawn_true (N : Nat) (hN : 1048577 < N) : wrackkeep2_drawn N = some true := by
  have h := pictures_true N hN
  unfold wracklaw2_pictures at h
  unfold wrackkeep2_drawn
  exact h

theorem rows_split (w i h : Nat) (dots : List Int) (hi : i < h) : rowsOf w dots h = rowsOf w dots i ++ ((dots.drop (i * w)).take w :: (List.range (h - (i + 1))).map fun j => (dots.drop ((i + 1 + j) * w)).take w) := by
  unfold rowsOf
  have e : List.range h = List.range i ++ (i :: (List.range (h - (i + 1))).map fun j => i + 1 + j) := by
    have : h = i + ((h - (i + 1)) + 1) := by omega
    conv => lhs; rw [this, List.range_add]
    congr 1
    rw [List.range_succ_eq_map]
    simp only [List.map_cons, Nat.add_zero, List.map_map]
    congr 1
    refine List.map_congr_left fun j _ => ?_
    simp only [Function.comp]
    omega
  rw [e, List.map_append, List.map_cons, List.map_map]
  rfl

theorem same_true (N : Nat) (p : Int × Int × List Int) (hN : 1048577 < N) (hl : p.2.2.length ≤ 1048576) : wrackkeep2_PixBack_1 N p p = some true := by
  unfold wrackkeep2_PixBack_1
  simp only [decide_true, if_true]
  rw [bindO_of (equal_eq N p.2.2 p.2.2 (by omega) (by omega))]
  simp [bindO]

/-- where a row begins -/
def rowAt (w : Nat) (dots : List Int) (j : Nat) : Nat := 5 + ((rowsOf w dots j).flatMap rowBytes).length

theorem rowAt_succ (w : Nat) (dots : List Int) (j : Nat) : rowAt w dots (j + 1) = rowAt w dots j + (rowBytes ((dots.drop (j * w)).take w)).length := by
  unfold rowAt
  have hr : rowsOf w dots (j + 1) = rowsOf w dots j ++ [(dots.drop (j * w)).take w] := by
    unfold rowsOf; rw [List.range_succ]; simp
  rw [hr, List.flatMap_append, List.length_append]
  simp
  omega

/-- a picture's bytes around a row -/
theorem picBytes_at (w h j : Nat) (dots : List Int) (hj : j < h) : ∃ P S, picBytes w h dots = P ++ (rowBytes ((dots.drop (j * w)).take w) ++ S) ∧ P.length = rowAt w dots j ∧
    P = [112, 105, 120, (w : Int), (h : Int)] ++ (rowsOf w dots j).flatMap rowBytes ∧ S = ((List.range (h - (j + 1))).map fun q => (dots.drop ((j + 1 + q) * w)).take w).flatMap rowBytes := by
  refine ⟨_, _, ?_, ?_, rfl, rfl⟩
  · unfold picBytes
    rw [rows_split w j h dots hj, List.flatMap_append, List.flatMap_cons, List.append_assoc]
  · unfold rowAt
    simp
    omega

theorem zeros_set (dots : List Int) (a j : Nat) (h : a + j < dots.length) : (dots.take a ++ List.replicate j 0 ++ dots.drop (a + j)).set (a + j) 0 = dots.take a ++ List.replicate (j + 1) 0 ++ dots.drop (a + (j + 1)) := by
  rw [List.drop_eq_getElem_cons h, List.set_append_right _ _ (by simp; omega)]
  have e : a + j - (dots.take a ++ List.replicate j (0 : Int)).length = 0 := by simp; omega
  rw [e, List.replicate_succ']
  simp [Nat.add_assoc]

theorem s0_loop (N : Nat) (b dots : List Int) (w h i : Nat) (by2 : Int) (hN : 1048577 < N) (hb : b = picBytes w h dots) (w2 : w ≤ 64) (h2 : h ≤ 64) (hl : dots.length = w * h) (hd : ∀ x ∈ dots, 0 ≤ x ∧ x < 16) (hi : i < h) (d2 : List Int) (m1 m2 m3 m4 : Int) (d1 : List Int) (k0) (Q : Option Bool → Prop)
    (hk : Q (k0 (b, (rowAt w dots i : Int), m1, m2, d1, m3, m4, d2, ()))) : Q (iter (wrackkeep2_PixBack.s0 N none k0 ((i : Int), by2, (i : Int), ())) none N (b, (5 : Int), (0 : Int), m1, m2, d1, m3, m4, d2, ())) := by
  refine iter_rule (fun v => ∃ j : Nat, v = (b, (rowAt w dots j : Int), (j : Int), m1, m2, d1, m3, m4, d2, ()) ∧ j ≤ i) (fun v => i - v.2.2.1.toNat) Q ?_ N _ ⟨0, by simp [rowAt, rowsOf], by omega⟩ (by simp; omega)
  rintro v again ⟨j, rfl, hj⟩ hag
  unfold wrackkeep2_PixBack.s0
  simp only [decide_eq_true_eq]
  by_cases hlt : j < i
  · obtain ⟨P, S, e1, e2, _, _⟩ := picBytes_at w h j dots (by omega)
    have hok := rowsOf_ok hl hd ((dots.drop (j * w)).take w) (by rw [rows_split w j h dots (by omega)]; simp)
    obtain ⟨cs, f1, f2, f3, f4⟩ := row_form _ hok.2 (by omega)
    have hlen : b.length = P.length + ((rowBytes ((dots.drop (j * w)).take w)).length + S.length) := by rw [hb, e1]; simp
    have hrl : (rowBytes ((dots.drop (j * w)).take w)).length = cs.length + 2 := by rw [f1]; simp
    have hbl : b.length ≤ 5 + 66 * 64 := by
      rw [hb]
      have h3 := flat_len (rowsOf w dots h) 64 (fun x hx => by have := rows_mem hx; omega)
      rw [rowsOf_len] at h3
      unfold picBytes; simp only [List.length_append, List.length_cons, List.length_nil]; omega
    rw [if_pos (by omega), w64 (x := (b.length : Int) - 1) (by omega) (by omega)]
    have hmin : minI (rowAt w dots j : Int) ((b.length : Int) - 1) = ((P.length : Nat) : Int) := by unfold minI; rw [← e2]; split <;> omega
    have hget : getI (0 : Int) b ((P.length : Nat) : Int) = (cs.length : Int) := by
      rw [getI_nat, hb, e1, f1, List.getD_eq_getElem?_getD, List.getElem?_append_right (Nat.le_refl _)]
      simp
    rw [hmin, gate_pos (inR_of (by omega) (by omega)), gate_pos (inR_of (by omega) (by omega)), hget, w64 (x := (cs.length : Int)) (by omega) (by omega), w64 (x := 2 + (cs.length : Int)) (by omega) (by omega), w64 (x := (rowAt w dots j : Int) + (2 + (cs.length : Int))) (by omega) (by omega), w64 (x := (j : Int) + 1) (by omega) (by omega)]
    refine hag _ ⟨j + 1, ?_, by omega⟩ (by simp; omega)
    rw [rowAt_succ, hrl]
    have e3 : (rowAt w dots j : Int) + (2 + (cs.length : Int)) = ((rowAt w dots j + (cs.length + 2) : Nat) : Int) := by omega
    rw [e3]
    rfl
  · rw [if_neg (by omega)]
    have : j = i := by omega
    subst this
    exact hk

theorem s1_loop (N : Nat) (dots bad d2 : List Int) (w h i : Nat) (f12 m1 m3 m4 : Int) (hN : 1048577 < N) (w2 : w ≤ 64) (h2 : h ≤ 64) (hl : dots.length = w * h) (hi : i < h) (k2) (Q : Option Bool → Prop)
    (hk : Q (k2 (bad, (w : Int), m1, dots.take (i * w) ++ List.replicate w 0 ++ dots.drop (i * w + w), m3, m4, d2, ()))) : Q (iter (wrackkeep2_PixBack.s1 N none k2 ((i : Int), f12, (w : Int), ())) none N (bad, (0 : Int), (w : Int), m1, dots, m3, m4, d2, ())) := by
  have hiw : i * w + w ≤ w * h := by rw [Nat.mul_comm w h, ← Nat.succ_mul]; exact Nat.mul_le_mul_right _ hi
  have hwh : w * h ≤ 64 * 64 := Nat.mul_le_mul w2 h2
  refine iter_rule (fun v => ∃ j : Nat, v = (bad, (j : Int), (w : Int), m1, dots.take (i * w) ++ List.replicate j 0 ++ dots.drop (i * w + j), m3, m4, d2, ()) ∧ j ≤ w) (fun v => w - v.2.1.toNat) Q ?_ N _ ⟨0, by simp, by omega⟩ (by simp; omega)
  rintro v again ⟨j, rfl, hj⟩ hag
  unfold wrackkeep2_PixBack.s1
  simp only [decide_eq_true_eq]
  by_cases hlt : j < w
  · rw [if_pos (by omega)]
    have e1 : (i : Int) * (w : Int) = ((i * w : Nat) : Int) := by simp
    have e2 : ((i * w : Nat) : Int) + (j : Int) = ((i * w + j : Nat) : Int) := by simp
    rw [e1, w64 (x := ((i * w : Nat) : Int)) (by omega) (by omega), e2, w64 (x := ((i * w + j : Nat) : Int)) (by omega) (by omega)]
    have hln : (dots.take (i * w) ++ List.replicate j 0 ++ dots.drop (i * w + j)).length = dots.length := by simp; omega
    rw [hln, gate_pos (inR_of (by omega) (by omega)), gate_pos (inR_of (by omega) (by omega)), w64 (x := (j : Int) + 1) (by omega) (by omega), Int.toNat_natCast, zeros_set dots (i * w) j (by omega)]
    exact hag _ ⟨j + 1, rfl, by omega⟩ (by simp; omega)
  · rw [if_neg (by omega)]
    have : j = w := by omega
    subst this
    exact hk

/-- PixBack: true. -/
theorem pixBack_true (N : Nat) (l : List Int) (row by2 : Int) (hN : 1048577 < N) : wrackkeep2_PixBack N l row by2 = some true := by
  unfold wrackkeep2_PixBack
  obtain ⟨w, h, dots, e, w1, w2, h1, h2, hl, hd⟩ := picture_ok N l hN
  have hwh : w * h ≤ 20 * 12 := Nat.mul_le_mul w2 h2
  have herr := picErr_ok w1 (by omega) h1 (by omega) hl hd
  have hmake := make_eq N (w : Int) (h : Int) dots hN (fun x hx => (hd x hx).1)
  rw [herr, if_pos rfl, Int.toNat_natCast, Int.toNat_natCast] at hmake
  have hpok := picBytes_ok (w := w) (h := h) (by omega) (by omega) hl hd
  have hread := read_eq N (picBytes w h dots) hN hpok
  rw [readPic_back w h dots w1 (by omega) h1 (by omega) hl hd] at hread
  rw [bindO_of e, bindO_of hmake]
  simp only
  rw [bindO_of hread, bindO_of (drawn_true N hN), if_neg (by simp), if_neg (by simp), if_neg (by simp), if_neg (by simp), bindO_of (same_true N _ hN (by simp only; omega)), if_neg (by simp), bindO_of (below_eq N row h (by omega) (by omega))]
  obtain ⟨i, hi⟩ := Int.eq_ofNat_of_zero_le (Int.emod_nonneg row (show (h : Int) ≠ 0 by omega))
  have hil : i < h := by have := Int.emod_lt_of_pos row (show 0 < (h : Int) by omega); omega
  rw [hi]
  refine s0_loop N (picBytes w h dots) dots w h i by2 hN rfl (by omega) (by omega) hl hd hil dots (w : Int) (h : Int) (w : Int) (h : Int) dots _ (fun r => r = some true) ?_
  simp only
  -- the row that is hurt
  obtain ⟨P, S, e1, e2, eP, eS⟩ := picBytes_at w h i dots hil
  have hseg := rowsOf_ok hl hd ((dots.drop (i * w)).take w) (by rw [rows_split w i h dots hil]; simp)
  obtain ⟨cs, f1, f2, f3, f4⟩ := row_form _ hseg.2 (by omega)
  rw [f1] at e1
  have hbl : (picBytes w h dots).length ≤ 5 + 66 * 64 := by
    have h3 := flat_len (rowsOf w dots h) 64 (fun x hx => by have := rows_mem hx; omega)
    rw [rowsOf_len] at h3
    unfold picBytes; simp only [List.length_append, List.length_cons, List.length_nil]; omega
  have hlen : (picBytes w h dots).length = P.length + (cs.length + 2 + S.length) := by rw [e1]; simp; omega
  generalize hz : crcOf ((cs.length : Int) :: cs) % 256 = z at e1
  have hzb : 0 ≤ z ∧ z < 256 := by omega
  rw [w64 (x := ((picBytes w h dots).length : Int) - 1) (by omega) (by omega)]
  have hmin : minI (rowAt w dots i : Int) (((picBytes w h dots).length : Int) - 1) = ((P.length : Nat) : Int) := by unfold minI; rw [← e2]; split <;> omega
  have hget : getI (0 : Int) (picBytes w h dots) ((P.length : Nat) : Int) = (cs.length : Int) := by
    rw [getI_nat, e1, List.getD_eq_getElem?_getD, List.getElem?_append_right (Nat.le_refl _)]
    simp
  rw [hmin, gate_pos (inR_of (by omega) (by omega)), gate_pos (inR_of (by omega) (by omega)), hget, w64 (x := (cs.length : Int)) (by omega) (by omega), w64 (x := 1 + (cs.length : Int)) (by omega) (by omega), ← e2]
  have e3 : ((P.length : Nat) : Int) + (1 + (cs.length : Int)) = ((P.length + (cs.length + 1) : Nat) : Int) := by omega
  rw [e3, w64 (x := ((P.length + (cs.length + 1) : Nat) : Int)) (by omega) (by omega)]
  have hgetz : getI (0 : Int) (picBytes w h dots) ((P.length + (cs.length + 1) : Nat) : Int) = z := by
    rw [getI_nat, e1, List.getD_eq_getElem?_getD, List.getElem?_append_right (by omega), Nat.add_sub_cancel_left, List.append_assoc, List.getElem?_append_right (by simp)]
    simp
  rw [if_neg (by simp; omega), gate_pos (inR_of (by omega) (by omega)), gate_pos (inR_of (by omega) (by omega)), hgetz, bindO_of (below_eq N by2 255 (by omega) (by omega))]
  have hb1 := Int.emod_nonneg by2 (show (255 : Int) ≠ 0 by omega)
  have hb2 := Int.emod_lt_of_pos by2 (show (0 : Int) < 255 by omega)
  generalize by2 % 255 = t at hb1 hb2
  rw [w64 (x := 1 + t) (by omega) (by omega), wu8 (x := 1 + t) (by omega) (by omega), gate_pos (inR_of (by omega) (by omega)), gate_pos (inR_of (by omega) (by omega)), wu8_mod, Int.toNat_natCast]
  generalize hz' : (z + (1 + t)) % 256 = z'
  have hne : z ≠ z' := by omega
  have hset : (picBytes w h dots).set (P.length + (cs.length + 1)) z' = P ++ ((((cs.length : Int) :: cs) ++ [z']) ++ S) := by
    rw [e1, List.set_append_right _ _ (by omega), Nat.add_sub_cancel_left, List.append_assoc, List.set_append_right _ _ (by simp)]
    simp
  rw [hset]
  have hPS : ∀ x ∈ P ++ ((((cs.length : Int) :: cs) ++ [z']) ++ S), 0 ≤ x ∧ x < 256 := by
    intro x hx
    have hall : ∀ y, y ∈ P ∨ y ∈ S → 0 ≤ y ∧ y < 256 := fun y hy => hpok y (by
      rw [e1]
      rcases hy with hy | hy
      · exact List.mem_append_left _ hy
      · exact List.mem_append_right _ (List.mem_append_right _ hy))
    rcases List.mem_append.1 hx with hx | hx
    · exact hall x (Or.inl hx)
    · rcases List.mem_append.1 hx with hx | hx
      · rcases List.mem_append.1 hx with hx | hx
        · rcases List.mem_cons.1 hx with hx | hx
          · subst hx; omega
          · exact f3 x hx
        · simp only [List.mem_singleton] at hx; subst hx; omega
      · exact hall x (Or.inr hx)
  have hread2 := read_eq N _ hN hPS
  have hhurt := readPic_hurt w h i dots z' cs w1 (by omega) h1 (by omega) hl hd hil f2 (by omega) (by rw [hz]; exact hne)
  have eb : P ++ ((((cs.length : Int) :: cs) ++ [z']) ++ S) = [112, 105, 120, (w : Int), (h : Int)] ++ ((rowsOf w dots i).flatMap rowBytes ++ (((cs.length : Int) :: cs) ++ [z'] ++ S)) := by
    rw [eP]; simp only [List.append_assoc]
  rw [eb] at hread2 ⊢
  rw [eS] at hread2 ⊢
  rw [hhurt] at hread2
  rw [bindO_of hread2]
  simp only
  have eiw : (i + 1) * w = i * w + w := Nat.succ_mul i w
  refine s1_loop N dots [(i : Int)] _ w h i _ _ _ _ hN (by omega) (by omega) hl hil _ (fun r => r = some true) ?_
  simp only
  rw [if_pos (by simp), bindO_of (equalInt_eq N _ _ (by simp) (by simp; omega)), if_pos (by simp), eiw]
  rw [bindO_of (same_true N _ hN (by simp; omega))]

end Go.Proofs.Yteekijpcdcpjkaa
