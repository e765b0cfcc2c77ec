/-
  PLAIN LAW: pictures: a row's bytes, a picture's bytes, what is wrong with a picture: the program's and the reference's.
-/
import Derived.Test.YteekijpcdcpjkaaPuEq
import Derived.Test.YteekijpcdcpjkaaPuCrc
set_option linter.unusedVariables false
set_option linter.unusedSimpArgs false
namespace Go.Proofs.Yteekijpcdcpjkaa
open Go Go.Ab

/-! ### a row -/
/-- one dot more -/
def pushDot (r : List Int) (c : Int) : List Int :=
  if 1 < r.length ∧ r.getD (r.length - 1) 0 % 16 = c ∧ r.getD (r.length - 1) 0 < 240 then r.set (r.length - 1) (r.getD (r.length - 1) 0 + 16) else r ++ [c]
def rowCodes (dots : List Int) : List Int := dots.foldl pushDot [0]
/-- the length set, the checksum behind -/
def sealRow (r : List Int) : List Int := r.set 0 (IntKind.wrap .u8 ((r.length : Int) - 1)) ++ [IntKind.wrap .u8 (crcOf (r.set 0 (IntKind.wrap .u8 ((r.length : Int) - 1))))]
def rowBytes (dots : List Int) : List Int := sealRow (rowCodes dots)

theorem pushDot_end (pre : List Int) (l c : Int) : pushDot (pre ++ [l]) c = if 1 < pre.length + 1 ∧ l % 16 = c ∧ l < 240 then pre ++ [l + 16] else pre ++ [l] ++ [c] := by
  unfold pushDot
  simp
theorem pushDot_len (r : List Int) (c : Int) : r.length ≤ (pushDot r c).length ∧ (pushDot r c).length ≤ r.length + 1 := by
  unfold pushDot
  split
  · simp
  · simp
theorem fold_len : ∀ (ds r : List Int), r.length ≤ (ds.foldl pushDot r).length ∧ (ds.foldl pushDot r).length ≤ r.length + ds.length := by
  intro ds
  induction ds with
  | nil => intro r; simp
  | cons d ds ih =>
    intro r
    have h1 := pushDot_len r d
    have h2 := ih (pushDot r d)
    simp only [List.foldl_cons, List.length_cons]
    omega
theorem rowCodes_len (ds : List Int) : 1 ≤ (rowCodes ds).length ∧ (rowCodes ds).length ≤ 1 + ds.length := fold_len ds [0]
theorem rowBytes_len (ds : List Int) : (rowBytes ds).length ≤ ds.length + 2 := by
  have := rowCodes_len ds
  unfold rowBytes sealRow
  simp
  omega

theorem row_inner {R : Type} (N : Nat) (s : R) (k2 : (List Int × Int × Unit) → R) (dots out : List Int) (i : Nat) (hb : dots.length ≤ 1048576) (hi : i < dots.length) (hd : ∀ x ∈ dots, 0 ≤ x ∧ x < 16) (ho : 1 ≤ out.length) (Q : R → Prop)
    (hk : ∀ m : Nat, 1 ≤ m → m ≤ 16 → i + m ≤ dots.length → (dots.drop (i + 1)).foldl pushDot (out ++ [dots[i]]) = (dots.drop (i + m)).foldl pushDot (out ++ [16 * ((m : Int) - 1) + dots[i]]) →
      (∀ x t, dots.drop (i + m) = x :: t → pushDot (out ++ [16 * ((m : Int) - 1) + dots[i]]) x = out ++ [16 * ((m : Int) - 1) + dots[i]] ++ [x]) → Q (k2 (out, (m : Int), ()))) (n : Nat) (hn : 16 < n) :
    Q (iter (pix_row.s1 N s k2 (dots, (i : Int), ())) s n (out, (1 : Int), ())) := by
  refine iter_rule (fun v => ∃ m : Nat, v = (out, (m : Int), ()) ∧ 1 ≤ m ∧ m ≤ 16 ∧ i + m ≤ dots.length ∧ (dots.drop (i + 1)).foldl pushDot (out ++ [dots[i]]) = (dots.drop (i + m)).foldl pushDot (out ++ [16 * ((m : Int) - 1) + dots[i]])) (fun v => 16 - v.2.1.toNat) Q ?_ n _ ⟨1, rfl, by omega, by omega, by omega, by simp⟩ (by simp; omega)
  have hdi := hd dots[i] (List.getElem_mem _)
  rintro v again ⟨m, rfl, h1, h2, h3, h4⟩ hag
  unfold pix_row.s1
  simp only [decide_eq_true_eq]
  by_cases hm : m < 16
  · rw [if_pos (by omega), w64 (by omega) (by omega)]
    by_cases hlt : i + m < dots.length
    · rw [if_pos (by omega), gate_pos (inR_of (by omega) (by omega)), gate_pos (inR_of (by omega) (by omega))]
      rw [bindO_of rfl]
      have ei : (i : Int) + (m : Int) = ((i + m : Nat) : Int) := by omega
      rw [ei, getI_get hlt, getI_get hi]
      by_cases hc : dots[i + m] = dots[i]
      · rw [if_pos (by simpa using hc), w64 (by omega) (by omega)]
        refine hag _ ⟨m + 1, by simp, by omega, by omega, by omega, ?_⟩ (by simp; omega)
        rw [h4, List.drop_eq_getElem_cons hlt, List.foldl_cons, pushDot_end, if_pos (by omega)]
        have e : (16 * ((m : Int) - 1) + dots[i] + 16) = 16 * (((m + 1 : Nat) : Int) - 1) + dots[i] := by omega
        rw [e]
        rfl
      · rw [if_neg (by simpa using hc)]
        refine hk m h1 h2 h3 h4 fun x t hx => ?_
        rw [List.drop_eq_getElem_cons hlt] at hx
        cases hx
        rw [pushDot_end, if_neg (by omega)]
    · rw [if_neg (by omega)]
      rw [bindO_of rfl, if_neg (by simp)]
      refine hk m h1 h2 h3 h4 fun x t hx => ?_
      rw [List.drop_eq_nil_of_le (by omega)] at hx
      cases hx
  · rw [if_neg (by omega)]
    rw [bindO_of rfl, if_neg (by simp)]
    refine hk m h1 h2 h3 h4 fun x t hx => ?_
    rw [pushDot_end, if_neg (by omega)]

theorem over8 (n : Nat) (c : Int) (h1 : 1 ≤ n) (h2 : n ≤ 16) (c1 : 0 ≤ c) (c2 : c < 16) : bitOr .u8 (shlI .u8 (IntKind.wrap .u8 (IntKind.wrap .i64 ((n : Int) - 1))) 4) c = 16 * ((n : Int) - 1) + c := by
  rw [w64 (by omega) (by omega), wu8 (by omega) (by omega)]
  obtain ⟨m, rfl⟩ : ∃ m : Nat, n = m + 1 := ⟨n - 1, by omega⟩
  obtain ⟨d, rfl⟩ := Int.eq_ofNat_of_zero_le c1
  have hm : m < 16 := by omega
  have hd : d < 16 := by omega
  have e : ((m + 1 : Nat) : Int) - 1 = (m : Int) := by omega
  rw [e]
  have all : ∀ m : Fin 16, ∀ d : Fin 16, bitOr .u8 (shlI .u8 ((m.val : Nat) : Int) 4) ((d.val : Nat) : Int) = 16 * ((m.val : Nat) : Int) + ((d.val : Nat) : Int) := by decide
  exact all ⟨m, hm⟩ ⟨d, hd⟩

theorem row_eq (N : Nat) (dots : List Int) (hb : dots.length ≤ 1048576) (hN : 1048577 < N) (hd : ∀ x ∈ dots, 0 ≤ x ∧ x < 16) : pix_row N dots = some (rowBytes dots) := by
  unfold pix_row
  refine iter_rule (fun v => ∃ (i : Nat) (out : List Int), v = (out, (i : Int), ()) ∧ i ≤ dots.length ∧ 1 ≤ out.length ∧ out.length ≤ i + 1 ∧ rowCodes dots = (dots.drop i).foldl pushDot out ∧ (∀ x t, dots.drop i = x :: t → pushDot out x = out ++ [x])) (fun v => dots.length - v.2.1.toNat) (fun r => r = some (rowBytes dots)) ?_ N _
    ⟨0, [0], rfl, Nat.zero_le _, by simp, by simp, rfl, fun x t _ => by simp [pushDot]⟩ (by simp; omega)
  rintro v again ⟨i, out, rfl, hi, ho, ho2, hr, hx⟩ hag
  unfold pix_row.s0
  simp only [decide_eq_true_eq]
  by_cases hlt : i < dots.length
  · rw [if_pos (by omega)]
    have hdi := hd dots[i] (List.getElem_mem _)
    refine row_inner N none _ dots out i hb hlt hd ho (fun r => r = some (rowBytes dots)) (fun m h1 h2 h3 h4 h5 => ?_) N (by omega)
    simp only
    rw [gate_pos (by decide), gate_pos (inR_of (by omega) (by omega)), getI_get hlt, over8 m _ h1 h2 hdi.1 hdi.2]
    rw [gate_pos (room_of (by simp; omega) (by simp; omega)), w64 (x := (i : Int) + (m : Int)) (by omega) (by omega)]
    refine hag _ ⟨i + m, out ++ [16 * ((m : Int) - 1) + dots[i]], by simp, h3, by simp, by simp; omega, ?_, h5⟩ (by simp; omega)
    rw [hr, ← h4, List.drop_eq_getElem_cons hlt, List.foldl_cons, hx _ _ (List.drop_eq_getElem_cons hlt)]
  · rw [if_neg (by omega)]
    rw [List.drop_eq_nil_of_le (by omega)] at hr
    simp only [List.foldl_nil] at hr
    subst hr
    rw [gate_pos (inR_of (by omega) (by omega)), gate_pos (inR_of (by omega) (by omega)), w64 (by omega) (by omega)]
    have hc := sumCrc_eq N ((rowCodes dots).set ((0 : Int)).toNat (IntKind.wrap .u8 (((rowCodes dots).length : Int) - 1))) (by simp; omega) (by simp; omega) (by omega)
    rw [bindO_of hc, gate_pos (room_of (by simp; omega) (by simp; omega))]
    rfl

/-! ### what is wrong -/
def picErr (w h : Int) (dots : List Int) : Int := if w < 1 ∨ w > 64 ∨ h < 1 ∨ h > 64 then 4 else if (dots.length : Int) ≠ w * h then 3 else if dots.any (fun x => decide (x ≥ 16)) = true then 4 else 0

theorem max_eq (N : Nat) (xs : List Int) (h0 : 0 < xs.length) (hb : xs.length ≤ 140737488355328) (hN : xs.length < N) : ∃ m, slices_Max_byte N xs = some m ∧ (m ≥ 16 ↔ xs.any (fun x => decide (x ≥ 16)) = true) := by
  unfold slices_Max_byte
  simp only [decide_eq_true_eq]
  rw [if_neg (by omega), gate_pos (inR_of (by omega) (by omega))]
  have g0 : getI (0 : Int) xs 0 = xs[0] := getI_get (i := 0) h0
  rw [g0]
  refine iter_rule (fun v => ∃ (i : Nat) (m : Int), v = (m, (i : Int), ()) ∧ 1 ≤ i ∧ i ≤ xs.length ∧ (m ≥ 16 ↔ (xs.take i).any (fun x => decide (x ≥ 16)) = true)) (fun v => xs.length - v.2.1.toNat) (fun r => ∃ m, r = some m ∧ (m ≥ 16 ↔ xs.any (fun x => decide (x ≥ 16)) = true)) ?_ N _
    ⟨1, xs[0], rfl, by omega, by omega, ?_⟩ (by simp; omega)
  · rintro v again ⟨i, m, rfl, hi1, hi, hm⟩ hag
    unfold slices_Max_byte.s0
    simp only [decide_eq_true_eq]
    by_cases hlt : i < xs.length
    · rw [if_pos (by omega), gate_pos (inR_of (by omega) (by omega)), getI_get hlt, w64 (by omega) (by omega)]
      refine hag _ ⟨i + 1, _, rfl, by omega, by omega, ?_⟩ (by simp; omega)
      rw [List.take_succ_eq_append_getElem hlt, List.any_append, Bool.or_eq_true, ← hm]
      simp only [List.any_cons, List.any_nil, Bool.or_false, decide_eq_true_eq]
      unfold maxI
      split <;> omega
    · rw [if_neg (by omega)]
      refine ⟨m, rfl, ?_⟩
      rw [hm, List.take_of_length_le (by omega)]
  · obtain ⟨x, t, rfl⟩ : ∃ x t, xs = x :: t := by
      cases xs with
      | nil => simp at h0
      | cons x t => exact ⟨x, t, rfl⟩
    simp

theorem check_eq (N : Nat) (w h : Int) (dots : List Int) (hN : 1048577 < N) : pix_Check N (w, h, dots) = some (picErr w h dots) := by
  unfold pix_Check picErr
  simp only [decide_eq_true_eq]
  by_cases c1 : w < 1 ∨ w > 64 ∨ h < 1 ∨ h > 64
  · rw [if_pos c1]
    have : (if w < 1 then some true else if w > 64 then some true else if h < 1 then some true else some (decide (h > 64))) = some true := by
      split
      · rfl
      · split
        · rfl
        · split
          · rfl
          · simp; omega
    rw [bindO_of this, if_pos rfl]
  · rw [if_neg c1]
    have : (if w < 1 then some true else if w > 64 then some true else if h < 1 then some true else some (decide (h > 64))) = some false := by
      rw [if_neg (by omega), if_neg (by omega), if_neg (by omega)]
      simp; omega
    rw [bindO_of this, if_neg (by simp)]
    have hw : w * h ≤ 64 * 64 := Int.mul_le_mul (by omega) (by omega) (by omega) (by omega)
    have hp : 1 * 1 ≤ w * h := Int.mul_le_mul (by omega) (by omega) (by omega) (by omega)
    rw [w64 (by omega) (by omega)]
    by_cases c2 : (dots.length : Int) = w * h
    · rw [if_neg (by simpa using c2), if_neg (by omega)]
      obtain ⟨m, e, hm⟩ := max_eq N dots (by omega) (by omega) (by omega)
      rw [bindO_of e]
      by_cases c3 : m ≥ 16
      · rw [if_pos c3, if_pos (hm.1 c3)]
      · rw [if_neg c3, if_neg (fun h => c3 (hm.2 h))]
    · rw [if_pos (by simpa using c2), if_pos c2]

theorem err_eq (N : Nat) (w h : Int) (dots : List Int) (hN : 1048577 < N) : wrackref2_PictureErr N (w, h, dots) = some (picErr w h dots) := by
  unfold wrackref2_PictureErr picErr
  simp only [decide_eq_true_eq]
  by_cases c1 : w < 1 ∨ w > 64 ∨ h < 1 ∨ h > 64
  · rw [if_pos c1]
    have : (if minI w h < 1 then some true else some (decide (maxI w h > 64))) = some true := by
      by_cases hm : minI w h < 1
      · rw [if_pos hm]
      · rw [if_neg hm]
        simp only [Option.some.injEq, decide_eq_true_eq]
        unfold minI at hm
        unfold maxI
        split at hm <;> split <;> omega
    rw [bindO_of this, if_pos rfl]
  · rw [if_neg c1]
    have : (if minI w h < 1 then some true else some (decide (maxI w h > 64))) = some false := by
      have hm : ¬ minI w h < 1 := by unfold minI; split <;> omega
      rw [if_neg hm]
      simp only [Option.some.injEq, decide_eq_false_iff_not]
      unfold maxI
      split <;> omega
    rw [bindO_of this, if_neg (by simp)]
    have hw : w * h ≤ 64 * 64 := Int.mul_le_mul (by omega) (by omega) (by omega) (by omega)
    have hp : 1 * 1 ≤ w * h := Int.mul_le_mul (by omega) (by omega) (by omega) (by omega)
    rw [w64 (by omega) (by omega)]
    by_cases c2 : (dots.length : Int) = w * h
    · rw [if_neg (by simpa using c2), if_neg (by omega)]
      refine iter_rule (fun v => ∃ (i : Nat), v = ((i : Int), ()) ∧ i ≤ dots.length ∧ (dots.take i).any (fun x => decide (x ≥ 16)) = false) (fun v => dots.length - v.1.toNat) (fun r => r = some (if dots.any (fun x => decide (x ≥ 16)) = true then 4 else 0)) ?_ N _ ⟨0, rfl, by omega, by simp⟩ (by simp; omega)
      rintro v again ⟨i, rfl, hi, hm⟩ hag
      unfold wrackref2_PictureErr.s0
      simp only [decide_eq_true_eq]
      by_cases hlt : i < dots.length
      · rw [if_pos (by omega), gate_pos (inR_of (by omega) (by omega)), getI_get hlt]
        by_cases c3 : dots[i] > 15
        · rw [if_pos c3, if_pos]
          exact List.any_eq_true.2 ⟨dots[i], List.getElem_mem _, by simp; omega⟩
        · rw [if_neg c3, w64 (by omega) (by omega)]
          refine hag _ ⟨i + 1, rfl, by omega, ?_⟩ (by simp; omega)
          rw [List.take_succ_eq_append_getElem hlt, List.any_append, hm]
          simp; omega
      · rw [if_neg (by omega)]
        rw [List.take_of_length_le (by omega)] at hm
        rw [if_neg (by simp [hm])]
    · rw [if_pos (by simpa using c2), if_pos c2]

theorem picErr_zero {w h : Int} {dots : List Int} (e : picErr w h dots = 0) : ∃ m n : Nat, w = (m : Int) ∧ h = (n : Int) ∧ 1 ≤ m ∧ m ≤ 64 ∧ 1 ≤ n ∧ n ≤ 64 ∧ dots.length = m * n ∧ ∀ x ∈ dots, x < 16 := by
  unfold picErr at e
  split at e
  · cases e
  · rename_i h1
    split at e
    · cases e
    · rename_i h2
      split at e
      · cases e
      · rename_i h3
        obtain ⟨m, rfl⟩ := Int.eq_ofNat_of_zero_le (show 0 ≤ w by omega)
        obtain ⟨n, rfl⟩ := Int.eq_ofNat_of_zero_le (show 0 ≤ h by omega)
        refine ⟨m, n, rfl, rfl, by omega, by omega, by omega, by omega, ?_, fun x hx => ?_⟩
        · have h2 : (dots.length : Int) = (m : Int) * (n : Int) := by simpa using h2
          exact_mod_cast h2
        · false_or_by_contra
          exact h3 (List.any_eq_true.2 ⟨x, hx, by simp; omega⟩)

/-! ### a picture's bytes -/
/-- row by row -/
def rowsOf (w : Nat) (dots : List Int) (n : Nat) : List (List Int) := (List.range n).map fun i => (dots.drop (i * w)).take w
def picBytes (w h : Nat) (dots : List Int) : List Int := [112, 105, 120, (w : Int), (h : Int)] ++ (rowsOf w dots h).flatMap rowBytes

theorem chunks_rows {w h : Nat} {dots : List Int} (hw : 1 ≤ w) (hl : dots.length = w * h) : chunks w dots = rowsOf w dots h := by
  unfold chunks rowsOf
  have : (dots.length + w - 1) / w = h := by
    rw [hl, show w * h + w - 1 = (w - 1) + w * h by omega, Nat.add_mul_div_left _ _ (by omega), Nat.div_eq_of_lt (by omega)]
    omega
  rw [this]

theorem flat_len (l : List (List Int)) (k : Nat) (h : ∀ x ∈ l, x.length ≤ k) : (l.flatMap rowBytes).length ≤ (k + 2) * l.length := by
  induction l with
  | nil => simp
  | cons x l ih =>
    have h1 := ih fun y hy => h y (List.mem_cons_of_mem _ hy)
    have h2 := rowBytes_len x
    have h3 := h x List.mem_cons_self
    simp only [List.flatMap_cons, List.length_append, List.length_cons]
    rw [Nat.mul_succ]
    omega

theorem make_fold (N : Nat) (hN : 1048577 < N) (k : (List Int × Unit) → Option (List Int × Int)) (hk : ∀ m, k (m, ()) = some (m, 0)) : ∀ (l : List (List Int)) (m : List Int), (∀ x ∈ l, x.length ≤ 64 ∧ ∀ y ∈ x, 0 ≤ y ∧ y < 16) → m.length + 66 * l.length ≤ 1048576 → foldR (pix_Make.r0 N none ()) k l (m, ()) = some (m ++ l.flatMap rowBytes, 0) := by
  intro l
  induction l with
  | nil => intro m _ _; simp [foldR, hk]
  | cons x l ih =>
    intro m hx hm
    have h1 := hx x List.mem_cons_self
    have h2 := rowBytes_len x
    simp only [List.length_cons] at hm
    show pix_Make.r0 N none () x (foldR (pix_Make.r0 N none ()) k l) (m, ()) = _
    have step : ∀ again : (List Int × Unit) → Option (List Int × Int), pix_Make.r0 N none () x again (m, ()) = again (m ++ rowBytes x, ()) := fun again => by
      unfold pix_Make.r0
      rw [bindO_of (row_eq N x (by omega) hN h1.2)]
      simp only
      rw [gate_pos (room_of (by omega) (by omega))]
    rw [step, ih _ (fun y hy => hx y (List.mem_cons_of_mem _ hy)) (by simp; omega)]
    simp

theorem rows_mem {w h : Nat} {dots x : List Int} (hx : x ∈ rowsOf w dots h) : x.length ≤ w ∧ ∀ y ∈ x, y ∈ dots := by
  unfold rowsOf at hx
  obtain ⟨i, _, rfl⟩ := List.mem_map.1 hx
  exact ⟨by simp; omega, fun y hy => List.mem_of_mem_drop (List.mem_of_mem_take hy)⟩

theorem make_eq (N : Nat) (w h : Int) (dots : List Int) (hN : 1048577 < N) (hd : ∀ x ∈ dots, 0 ≤ x) : pix_Make N (w, h, dots) = some (if picErr w h dots = 0 then (picBytes w.toNat h.toNat dots, 0) else ([], picErr w h dots)) := by
  unfold pix_Make
  rw [bindO_of (check_eq N w h dots hN)]
  by_cases h0 : picErr w h dots = 0
  · obtain ⟨m, n, rfl, rfl, m1, m2, n1, n2, hl, hx⟩ := picErr_zero h0
    have hmn : m * n ≤ 64 * 64 := Nat.mul_le_mul m2 n2
    have hmn1 : 1 * 1 ≤ m * n := Nat.mul_le_mul m1 n1
    rw [if_neg (by simpa using h0), if_pos h0]
    simp only [decide_eq_true_eq]
    rw [if_neg (by omega)]
    have hc : chunkGo dots (m : Int) = some (rowsOf m dots n) := by
      unfold chunkGo
      rw [if_pos (by omega), Int.toNat_natCast, chunks_rows m1 hl]
    rw [bindO_of hc, make_fold N hN _ (fun _ => rfl)]
    · unfold picBytes
      rw [wu8 (by omega) (by omega), wu8 (by omega) (by omega)]
      rfl
    · intro x hxm
      have := rows_mem hxm
      exact ⟨by omega, fun y hy => ⟨hd y (this.2 y hy), hx y (this.2 y hy)⟩⟩
    · unfold rowsOf
      simp; omega
  · rw [if_pos (by simpa using h0), if_neg h0]

/-! ### the reference's bytes -/
theorem bytes_inner {R : Type} (N : Nat) (s : R) (k2 : (List Int × List Int × Int × Int × List Int × Unit) → R) (out dots seg : List Int) (y w : Nat) (a b h : Int) (hh : 0 ≤ h) (hw : w ≤ 64) (hseg : seg.length = w) (hget : ∀ x (hx : x < seg.length), y * w + x < dots.length ∧ ∀ hl : y * w + x < dots.length, dots[y * w + x] = seg[x])
    (hy : y * w + w ≤ 4096) (hd : ∀ x ∈ dots, 0 ≤ x ∧ x < 16) (Q : R → Prop) (hk : Q (k2 (out, rowCodes seg, (w : Int), h, dots, ()))) (n : Nat) (hn : 64 < n) :
    Q (iter (wrackref2_PictureBytes.s1 N s k2 ((y : Int), a, b, (w : Int), ())) s n (out, [(0 : Int)], (0 : Int), (w : Int), h, dots, ())) := by
  refine iter_rule (fun v => ∃ (x : Nat) (pre : List Int) (l : Int), v = (out, pre ++ [l], (x : Int), (w : Int), h, dots, ()) ∧ x ≤ w ∧ 0 ≤ l ∧ l < 256 ∧ pre.length ≤ x ∧ rowCodes seg = (seg.drop x).foldl pushDot (pre ++ [l])) (fun v => w - v.2.2.1.toNat) Q ?_ n _ ⟨0, [], 0, rfl, by omega, by omega, by omega, by simp, rfl⟩ (by simp; omega)
  rintro v again ⟨x, pre, l, rfl, hx, l1, l2, hp, hr⟩ hag
  unfold wrackref2_PictureBytes.s1
  simp only [decide_eq_true_eq]
  by_cases hlt : x < w
  · have hlt' : x < seg.length := by omega
    obtain ⟨g1, g2⟩ := hget x hlt'
    have hdx := hd dots[y * w + x] (List.getElem_mem _)
    rw [if_pos (by omega)]
    have e1 : (y : Int) * (w : Int) = ((y * w : Nat) : Int) := by simp
    have e2 : ((y * w : Nat) : Int) + (x : Int) = ((y * w + x : Nat) : Int) := by simp
    rw [e1, w64 (x := ((y * w : Nat) : Int)) (by omega) (by omega), e2, w64 (x := ((y * w + x : Nat) : Int)) (by omega) (by omega), gate_pos (inR_of (by omega) (by omega)), getI_get g1, g2 g1]
    have e3 : (((pre ++ [l]).length : Int) - 1) = (pre.length : Int) := by simp
    rw [e3, w64 (x := (pre.length : Int)) (by omega) (by omega), w64 (x := (x : Int) + 1) (by omega) (by omega)]
    have hin : inR (pre.length : Int) ((pre ++ [l]).length : Int) = true := inR_of (by omega) (by simp; omega)
    have hg : getI (0 : Int) (pre ++ [l]) (pre.length : Int) = l := by rw [getI_nat]; simp
    rw [gate_pos hin, gate_pos hin, gate_pos hin, gate_pos hin, gate_pos hin, gate_pos hin, gate_pos hin, gate_pos hin, gate_pos (by decide), hg, Int.tmod_eq_emod_of_nonneg l1]
    rw [g2 g1] at hdx
    rw [List.drop_eq_getElem_cons hlt', List.foldl_cons, pushDot_end] at hr
    by_cases hc : 1 < pre.length + 1 ∧ l % 16 = seg[x] ∧ l < 240
    · rw [if_pos hc] at hr
      rw [if_pos (by omega), if_pos hc.2.1, bindO_of rfl, if_pos (by simp; omega), wu8 (by omega) (by omega)]
      have hset : (pre ++ [l]).set (pre.length : Int).toNat (l + 16) = pre ++ [l + 16] := by simp
      rw [hset]
      exact hag _ ⟨x + 1, pre, l + 16, by simp, by omega, by omega, by omega, by omega, hr⟩ (by simp; omega)
    · rw [if_neg hc] at hr
      have hb : (if (pre.length : Int) > 0 then if l % 16 = seg[x] then some (decide (l < 240)) else some false else some false) = some false := by
        by_cases c1 : (pre.length : Int) > 0
        · rw [if_pos c1]
          by_cases c2 : l % 16 = seg[x]
          · rw [if_pos c2]; simp; omega
          · rw [if_neg c2]
        · rw [if_neg c1]
      rw [bindO_of hb, if_neg (by simp), gate_pos (room_of (by simp; omega) (by simp; omega))]
      exact hag _ ⟨x + 1, pre ++ [l], seg[x], by simp, by omega, by omega, by omega, by simp; omega, hr⟩ (by simp; omega)
  · rw [if_neg (by omega)]
    rw [List.drop_eq_nil_of_le (by omega)] at hr
    have hr : rowCodes seg = pre ++ [l] := hr
    rw [hr] at hk
    exact hk

theorem bytes_eq (N : Nat) (w h : Nat) (dots : List Int) (hN : 1048577 < N) (w1 : 1 ≤ w) (w2 : w ≤ 64) (h2 : h ≤ 64) (hl : dots.length = w * h) (hd : ∀ x ∈ dots, 0 ≤ x ∧ x < 16) : wrackref2_PictureBytes N ((w : Int), (h : Int), dots) = some (picBytes w h dots) := by
  unfold wrackref2_PictureBytes
  have hwh : w * h ≤ 64 * 64 := Nat.mul_le_mul w2 h2
  refine iter_rule (fun v => ∃ (y : Nat) (out : List Int), v = (out, (y : Int), (w : Int), (h : Int), dots, ()) ∧ y ≤ h ∧ out = [112, 105, 120, (w : Int), (h : Int)] ++ (rowsOf w dots y).flatMap rowBytes) (fun v => h - v.2.1.toNat) (fun r => r = some (picBytes w h dots)) ?_ N _ ⟨0, _, rfl, by omega, ?_⟩ (by simp; omega)
  · rintro v again ⟨y, out, rfl, hy, ho⟩ hag
    unfold wrackref2_PictureBytes.s0
    simp only [decide_eq_true_eq]
    have hlen : out.length ≤ 5 + 66 * 64 := by
      have h3 := flat_len (rowsOf w dots y) 64 (fun x hx => by have := rows_mem hx; omega)
      have h4 : (rowsOf w dots y).length = y := by unfold rowsOf; simp
      rw [ho]; simp only [List.length_append, List.length_cons, List.length_nil]; rw [h4] at h3; omega
    by_cases hlt : y < h
    · rw [if_pos (by omega)]
      have hyw : y * w + w ≤ w * h := by
        rw [Nat.mul_comm w h, ← Nat.succ_mul]
        exact Nat.mul_le_mul_right _ hlt
      have hsl : ((dots.drop (y * w)).take w).length = w := by simp; omega
      have hrl := rowCodes_len ((dots.drop (y * w)).take w)
      have hbl := rowBytes_len ((dots.drop (y * w)).take w)
      refine bytes_inner N none _ out dots ((dots.drop (y * w)).take w) y w _ _ (h : Int) (by omega) w2 hsl (fun x hx => ⟨by omega, fun hlx => by simp⟩) (by omega) hd (fun r => r = some (picBytes w h dots)) ?_ N (by omega)
      simp only
      have hs := crcOf_bd ((rowCodes ((dots.drop (y * w)).take w)).set 0 (IntKind.wrap .u8 (((rowCodes ((dots.drop (y * w)).take w)).length : Int) - 1)))
      rw [gate_pos (inR_of (by omega) (by omega)), gate_pos (inR_of (by omega) (by omega)), w64 (by omega) (by omega)]
      have hc := refCrc_eq N ((rowCodes ((dots.drop (y * w)).take w)).set ((0 : Int)).toNat (IntKind.wrap .u8 (((rowCodes ((dots.drop (y * w)).take w)).length : Int) - 1))) (by simp; omega) (by simp; omega) (by omega)
      rw [gate_pos (room_of (by simp; omega) (by simp; omega)), bindO_of hc, gate_pos (by decide), gate_pos (room_of (by simp; omega) (by simp; omega)), w64 (x := (y : Int) + 1) (by omega) (by omega)]
      refine hag _ ⟨y + 1, _, rfl, by omega, ?_⟩ (by simp; omega)
      have hm : IntKind.wrap .u8 (Int.tmod (crcOf ((rowCodes ((dots.drop (y * w)).take w)).set 0 (IntKind.wrap .u8 (((rowCodes ((dots.drop (y * w)).take w)).length : Int) - 1)))) 256) = IntKind.wrap .u8 (crcOf ((rowCodes ((dots.drop (y * w)).take w)).set 0 (IntKind.wrap .u8 (((rowCodes ((dots.drop (y * w)).take w)).length : Int) - 1)))) := by
        generalize crcOf ((rowCodes ((dots.drop (y * w)).take w)).set 0 (IntKind.wrap .u8 (((rowCodes ((dots.drop (y * w)).take w)).length : Int) - 1))) = q at hs ⊢
        rw [Int.tmod_eq_emod_of_nonneg hs.1, wu8_mod, wu8_mod]
        omega
      have hr : rowsOf w dots (y + 1) = rowsOf w dots y ++ [(dots.drop (y * w)).take w] := by
        unfold rowsOf; rw [List.range_succ]; simp
      rw [hr, List.flatMap_append, ← List.append_assoc, ← ho]
      simp only [Int.toNat_zero]
      rw [hm]
      simp [rowBytes, sealRow]
    · rw [if_neg (by omega)]
      have : y = h := by omega
      subst this
      subst ho
      rfl
  · simp only [rowsOf, List.range_zero, List.map_nil, List.flatMap_nil, List.append_nil]
    rw [wu8 (by omega) (by omega), wu8 (by omega) (by omega)]

theorem pictures_true (N : Nat) (hN : 1048577 < N) : wracklaw2_pictures N = some true := by
  unfold wracklaw2_pictures
  have e := make_eq N 2 1 [3, 3] hN (by simp)
  have h0 : picErr 2 1 [3, 3] = 0 := by decide
  rw [if_pos h0] at e
  have hb : picBytes ((2 : Int).toNat) ((1 : Int).toNat) [3, 3] = [112, 105, 120, 2, 1] ++ ([1, 19] ++ [IntKind.wrap .u8 (crcOf [1, 19])]) := by
    show [112, 105, 120, ((2 : Nat) : Int), ((1 : Nat) : Int)] ++ (rowsOf 2 [3, 3] 1).flatMap rowBytes = _
    have h1 : rowsOf 2 [(3 : Int), 3] 1 = [[3, 3]] := by decide
    have h2 : rowCodes [3, 3] = [0, 19] := by decide
    rw [h1]
    simp only [List.flatMap_cons, List.flatMap_nil, List.append_nil]
    unfold rowBytes sealRow
    rw [h2]
    have h3 : ([0, 19] : List Int).set 0 (IntKind.wrap .u8 ((([0, 19] : List Int).length : Int) - 1)) = [1, 19] := by decide
    rw [h3]
    rfl
  rw [hb] at e
  rw [bindO_of e]
  simp [gate, bindO, inR, getI]

/-- PixMakes: true. -/
theorem pixMakes_true (N : Nat) (w h : Int) (dots : List Int) (hN : 1048577 < N) (hd : ∀ x ∈ dots, 0 ≤ x ∧ x < 256) : wracklaw2_PixMakes N (w, h, dots) = some true := by
  unfold wracklaw2_PixMakes
  rw [bindO_of (make_eq N w h dots hN (fun x hx => (hd x hx).1)), bindO_of (err_eq N w h dots hN)]
  have hc : (bindO (wracklaw2_pictures N) (fun r13 => if (!r13) = true then some true else bindO (pix_Check N (w, h, dots)) (fun r17 => if (!decide (r17 = picErr w h dots)) = true then some true else some (!decide ((if picErr w h dots = 0 then (picBytes w.toNat h.toNat dots, 0) else ([], picErr w h dots)).2 = picErr w h dots))) none) none : Option Bool) = some false := by
    rw [bindO_of (pictures_true N hN), if_neg (by simp), bindO_of (check_eq N w h dots hN), if_neg (by simp)]
    by_cases h0 : picErr w h dots = 0
    · simp [h0]
    · simp [h0]
  rw [bindO_of hc, if_neg (by simp)]
  by_cases h0 : picErr w h dots = 0
  · obtain ⟨m, n, rfl, rfl, m1, m2, n1, n2, hl, hx⟩ := picErr_zero h0
    have hmn : m * n ≤ 64 * 64 := Nat.mul_le_mul m2 n2
    rw [if_neg (by simpa using h0)]
    simp only [h0, if_true, Int.toNat_natCast, decide_true]
    rw [bindO_of (bytes_eq N m n dots hN m1 m2 n2 hl (fun x hxd => ⟨(hd x hxd).1, hx x hxd⟩))]
    have hlen : (picBytes m n dots).length ≤ 5 + 66 * 64 := by
      have h3 := flat_len (rowsOf m dots n) 64 (fun x hx => by have := rows_mem hx; omega)
      have h4 : (rowsOf m dots n).length = n := by unfold rowsOf; simp
      unfold picBytes; simp only [List.length_append, List.length_cons, List.length_nil]; rw [h4] at h3; omega
    rw [bindO_of (equal_eq N _ _ (by omega) (by omega))]
    simp
  · rw [if_pos (by simpa using h0)]
    simp [h0]
end Go.Proofs.Yteekijpcdcpjkaa
