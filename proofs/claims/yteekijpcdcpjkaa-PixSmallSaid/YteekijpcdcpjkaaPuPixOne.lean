/-
  PLAIN LAW: pictures made small and compared: what PixSmall asks.
-/
import Derived.Test.YteekijpcdcpjkaaPuPixApart
import Derived.Test.YteekijpcdcpjkaaPuEqInt
import Derived.Test.YteekijpcdcpjkaaPuPicture
set_option linter.unusedVariables false
set_option linter.unusedSimpArgs false
namespace Go.Proofs.Yteekijpcdcpjkaa
open Go Go.Ab

theorem picErr_ok {w h : Nat} {dots : List Int} (hw1 : 1 ≤ w) (hw : w ≤ 64) (hh1 : 1 ≤ h) (hh : h ≤ 64) (hl : dots.length = w * h) (hd : ∀ y ∈ dots, 0 ≤ y ∧ y < 16) : picErr (w : Int) (h : Int) dots = 0 := by
  unfold picErr
  rw [if_neg (by omega), if_neg (by rw [hl]; simp), if_neg]
  simp only [List.any_eq_true, decide_eq_true_eq, not_exists, not_and]
  intro y hy
  have := hd y hy
  omega

/-! ### squares of one dot -/
theorem across_one {w : Nat} (hw1 : 1 ≤ w) : across w 1 = w := by
  unfold across
  rw [Nat.div_one]; omega
theorem sq_one {w : Nat} (hw1 : 1 ≤ w) (i : Nat) : sq w 1 i = i := by
  unfold sq
  rw [across_one hw1, Nat.div_one, Nat.div_one]
  have := Nat.div_add_mod i w
  rw [Nat.mul_comm] at this
  exact this
theorem acc_one {w : Nat} (hw1 : 1 ≤ w) (f : Nat → Int) (k : Nat) : ∀ m, acc w 1 f k m = if k < m then f k else 0 := by
  intro m
  induction m with
  | zero => simp [acc]
  | succ m ih =>
    rw [acc_succ, ih, sq_one hw1]
    by_cases h1 : k < m
    · rw [if_pos h1, if_neg (by omega), if_pos (by omega)]; omega
    · rw [if_neg h1]
      by_cases h2 : m = k
      · subst h2; rw [if_pos rfl, if_pos (by omega)]; omega
      · rw [if_neg h2, if_neg (by omega)]; omega

theorem small_one {w h : Nat} {dots : List Int} (hw1 : 1 ≤ w) (hh1 : 1 ≤ h) (hl : dots.length = w * h) (hd : ∀ y ∈ dots, 0 ≤ y ∧ y < 16) : smallDots w h 1 dots = dots := by
  unfold smallDots
  rw [across_one hw1, across_one hh1]
  apply List.ext_getElem
  · simp [hl]
  · intro i h1 h2
    simp only [List.getElem_map, List.getElem_range]
    have hi : i < w * h := by simpa using h1
    unfold sqVal
    rw [acc_one hw1, acc_one hw1, if_pos hi, if_pos hi]
    have e1 : f1 (w * h) i = 1 := by unfold f1; rw [if_pos hi]
    have e2 : fd dots i = dots[i] := by
      unfold fd
      exact getD_get h2
    have hdi := hd _ (List.getElem_mem h2)
    rw [e1, e2, Int.tdiv_one, w64 (by omega) (by omega), wu8 (by omega) (by omega)]

/-! ### one color -/
theorem cnt_pos {w h s : Nat} (hw1 : 1 ≤ w) (hh1 : 1 ≤ h) (hs1 : 1 ≤ s) {k : Nat} (hk : k < across w s * across h s) : 1 ≤ acc w s (f1 (w * h)) k (w * h) := by
  have hAp : 0 < across w s := Nat.succ_pos _
  obtain ⟨ky, kx, e, hkx, hky⟩ : ∃ ky kx, k = ky * across w s + kx ∧ kx < across w s ∧ ky < across h s := by
    refine ⟨k / across w s, k % across w s, ?_, Nat.mod_lt _ hAp, ?_⟩
    · have := Nat.div_add_mod k (across w s)
      rw [Nat.mul_comm] at this
      exact this.symm
    · rw [Nat.div_lt_iff_lt_mul hAp, Nat.mul_comm]
      exact hk
  have hx : kx * s < w := across_in hw1 hs1 hkx
  have hy : ky * s < h := across_in hh1 hs1 hky
  have hvw : (ky * s + 1) * w ≤ h * w := Nat.mul_le_mul_right _ (by omega)
  rw [Nat.add_mul, Nat.mul_comm h] at hvw
  have i1 : sq w s (ky * s * w + kx * s) = k := by
    rw [e]
    exact (sq_iff hw1 hs1 hx hkx).2 ⟨Nat.mul_div_cancel _ (by omega), Nat.mul_div_cancel _ (by omega)⟩
  obtain ⟨d, hd2⟩ := Nat.exists_eq_add_of_le (show ky * s * w + kx * s + 1 ≤ w * h by omega)
  have hm := acc_mono w s (f1 (w * h)) k (fun i => (f1_bound _ i).1) (ky * s * w + kx * s + 1) d
  rw [← hd2, acc_succ, if_pos i1] at hm
  have hb := acc_bound w s (f1 (w * h)) k 1 (by omega) (f1_bound _) (ky * s * w + kx * s)
  have e1 : f1 (w * h) (ky * s * w + kx * s) = 1 := by unfold f1; rw [if_pos (by omega)]
  rw [e1] at hm
  omega

theorem acc_flat (w s n : Nat) (c : Int) (k : Nat) : ∀ m, acc w s (fd (List.replicate n c)) k m = c * acc w s (f1 n) k m := by
  intro m
  induction m with
  | zero => simp [acc]
  | succ m ih =>
    rw [acc_succ, acc_succ, ih, Int.mul_add]
    congr 1
    by_cases hk : sq w s m = k
    · rw [if_pos hk, if_pos hk]
      unfold fd f1
      by_cases hm : m < n
      · rw [if_pos hm, getD_get (by simpa using hm)]; simp
      · rw [if_neg hm, List.getD_eq_getElem?_getD, List.getElem?_eq_none (by simpa using hm)]; simp
    · rw [if_neg hk, if_neg hk]; simp

theorem small_flat {w h s : Nat} (hw1 : 1 ≤ w) (hh1 : 1 ≤ h) (hs1 : 1 ≤ s) {c : Int} (hc : 0 ≤ c ∧ c < 16) : smallDots w h s (List.replicate (w * h) c) = List.replicate (across w s * across h s) c := by
  unfold smallDots
  apply List.ext_getElem
  · simp
  · intro i h1 h2
    simp only [List.getElem_map, List.getElem_range, List.getElem_replicate]
    have hi : i < across w s * across h s := by simpa using h1
    have hp := cnt_pos hw1 hh1 hs1 hi
    unfold sqVal
    rw [acc_flat, Int.mul_tdiv_cancel _ (by omega), w64 (by omega) (by omega), wu8 (by omega) (by omega)]

theorem compactInts_len (xs : List Int) : (compactInts xs).length ≤ xs.length := by
  simp only [compactInts, Go.Lib.compact, Go.Lib.compactUpTo, List.length_map]
  refine Nat.le_trans (List.length_filter_le _ _) ?_
  simp

/-! ### one dot that differs -/
theorem same_keys (w s : Nat) (p : List Int) : ∀ n, diffKeys w s p p n = [] := by
  intro n
  induction n with
  | zero => rfl
  | succ n ih => simp [diffKeys, ih, differ]

theorem one_key {w s : Nat} {p : List Int} {n j : Nat} {c : Int} (hj : j < n) (hn : p.length = n) (hc : c ≠ p.getD j 0) : compactInts (sortInts (diffKeys w s p (p.set j c) n)) = [(sq w s j : Int)] := by
  have hd : ∀ i, i < n → (differ p (p.set j c) i = true ↔ i = j) := fun i hi => by
    unfold differ
    rw [getD_get (xs := p) (by omega), getD_get (xs := p.set j c) (by rw [List.length_set]; omega), List.getElem_set]
    rw [getD_get (xs := p) (by omega)] at hc
    by_cases hij : j = i
    · subst hij
      simp [Ne.symm hc]
    · rw [if_neg hij]
      simp
      exact fun h => hij h.symm
  refine eq_of_rising _ _ (compact_rising (sort_rising _)) (List.pairwise_singleton _ _) fun x => ?_
  rw [compact_mem, sort_mem, diffKeys_mem]
  simp only [List.mem_singleton]
  constructor
  · rintro ⟨i, h1, h2, rfl⟩
    rw [(hd i h1).1 h2]
  · rintro rfl
    exact ⟨j, hj, (hd j hj).2 rfl, rfl⟩

theorem compact_nil : compactInts (sortInts []) = [] := by
  have : (compactInts (sortInts [])).length ≤ 0 := by
    refine Nat.le_trans (compactInts_len _) ?_
    rw [sort_len]; simp
  exact List.eq_nil_of_length_eq_zero (by omega)

theorem drawn_true (N : Nat) (hN : 1048577 < N) : wrackkeep2_drawn N = some true := pictures_true N hN

theorem clone_eq (N : Nat) (xs : List Int) (h : xs.length ≤ 1000000) : slices_Clone_byte N xs = some xs := by
  unfold slices_Clone_byte
  rw [gate_pos (room_of (by simp; omega) (by simp; omega))]
  rfl

theorem pixSmall_true (N : Nat) (l : List Int) (k side : Int) (hN : 1048577 < N) : wrackkeep2_PixSmall N l k side = some true := by
  obtain ⟨w, h, dots, hpic, hw1, hw20, hh1, hh12, hl, hd⟩ := picture_ok N l hN
  have hw : w ≤ 64 := by omega
  have hh : h ≤ 64 := by omega
  have hwh : w * h ≤ 20 * 12 := Nat.mul_le_mul hw20 hh12
  have hwh1 : 1 ≤ w * h := Nat.mul_le_mul hw1 hh1
  have hok := picErr_ok hw1 hw hh1 hh hl hd
  -- the side
  have hr0 := Int.emod_nonneg side (show (9 : Int) ≠ 0 by omega)
  have hr9 := Int.emod_lt_of_pos side (show (0 : Int) < 9 by omega)
  obtain ⟨s, hs⟩ : ∃ s : Nat, (1 : Int) + side % 9 = (s : Int) := ⟨((1 : Int) + side % 9).toNat, by omega⟩
  have hs1 : 1 ≤ s := by omega
  have hs64 : s ≤ 64 := by omega
  have hsw : IntKind.wrap .i64 ((1 : Int) + side % 9) = (s : Int) := by rw [hs]; exact w64 (by omega) (by omega)
  -- the dot
  have hj0 := Int.emod_nonneg k (show ((w * h : Nat) : Int) ≠ 0 by omega)
  have hj1 := Int.emod_lt_of_pos k (show (0 : Int) < ((w * h : Nat) : Int) by omega)
  obtain ⟨j, hj⟩ : ∃ j : Nat, k % ((w * h : Nat) : Int) = (j : Int) := ⟨(k % ((w * h : Nat) : Int)).toNat, by omega⟩
  have hjl : j < w * h := by omega
  have hjd : j < dots.length := by omega
  have hdj := hd _ (List.getElem_mem hjd)
  have hlenI : (dots.length : Int) = ((w * h : Nat) : Int) := by rw [hl]
  have hone : pix_Small N ((w : Int), ((h : Int), dots)) (1 : Int) = some (((w : Int), ((h : Int), dots)), (0 : Int)) := by
    have := small_eq hw1 hw hh1 hh (s := 1) (by omega) (by omega) hl hd N hN
    rw [small_one hw1 hh1 hl hd, across_one hw1, across_one hh1] at this
    exact this
  have hnone := apart_eq N hN hw1 hw hh1 hh hs1 hs64 hl hl hok hok
  rw [same_keys, compact_nil] at hnone
  -- the other picture
  have hcol : Int.tmod (IntKind.wrap .u8 (dots[j] + 1)) 16 = (dots[j] + 1) % 16 := by
    rw [wu8 (by omega) (by omega), Int.tmod_eq_emod_of_nonneg (by omega)]
  have hcb : 0 ≤ (dots[j] + 1) % 16 ∧ (dots[j] + 1) % 16 < 16 := by omega
  have hcn : (dots[j] + 1) % 16 ≠ dots.getD j 0 := by rw [getD_get hjd]; omega
  have hql : (dots.set j ((dots[j] + 1) % 16)).length = w * h := by rw [List.length_set]; exact hl
  have hqd : ∀ y ∈ dots.set j ((dots[j] + 1) % 16), 0 ≤ y ∧ y < 16 := fun y hy => by
    rcases List.mem_or_eq_of_mem_set hy with h1 | h1
    · exact hd y h1
    · rw [h1]; exact hcb
  have hsq := apart_eq N hN hw1 hw hh1 hh hs1 hs64 hl hql hok (picErr_ok hw1 hw hh1 hh hql hqd)
  rw [one_key hjl hl hcn] at hsq
  -- one color
  have h0 : 0 < dots.length := by omega
  have hd0 := hd _ (List.getElem_mem h0)
  have hrep := repeat_eq N dots[0] (w * h) (by omega) (by omega)
  have hfl : (List.replicate (w * h) dots[0]).length = w * h := List.length_replicate
  have hfd : ∀ y ∈ List.replicate (w * h) dots[0], 0 ≤ y ∧ y < 16 := fun y hy => by rw [(List.mem_replicate.1 hy).2]; exact hd0
  have hflat := small_eq hw1 hw hh1 hh hs1 hs64 hfl hfd N hN
  rw [small_flat hw1 hh1 hs1 hd0] at hflat
  have hwn : ¬ (w : Int) = 0 := by omega
  have hsn : ¬ (s : Int) = 0 := by omega
  have g0 : getI (0 : Int) dots 0 = dots[0] := getI_get (i := 0) h0
  have hacr : IntKind.wrap .i64 (Int.tdiv (IntKind.wrap .i64 (IntKind.wrap .i64 ((w : Int) + (s : Int)) - 1)) (s : Int)) = (across w s : Int) := by
    have e1 : (w : Int) + (s : Int) - 1 = ((w + s - 1 : Nat) : Int) := by omega
    rw [w64 (x := (w : Int) + (s : Int)) (by omega) (by omega), e1, w64 (x := ((w + s - 1 : Nat) : Int)) (by omega) (by omega), tdiv_nat, across_tdiv hw1 hs1]
    have := across_le (s := s) hw1 hw
    exact w64 (by omega) (by omega)
  have hM : across w s * across h s ≤ 4096 := Nat.mul_le_mul (across_le hw1 hw) (across_le hh1 hh)
  have hMp : 1 ≤ across w s * across h s := Nat.mul_le_mul (Nat.succ_pos _) (Nat.succ_pos _)
  have hsj : sq w s j ≤ 100000 := by
    have := sq_lt (s := s) hw1 hs1 hh1 hjl
    omega
  unfold wrackkeep2_PixSmall
  rw [bindO_of hpic, bindO_of (below_eq N side 9 (by omega) (by omega))]
  simp only [hsw]
  rw [bindO_of hone, bindO_of hnone, bindO_of (clone_eq N dots (by omega)), hlenI, bindO_of (below_eq N k _ (by omega) (by omega)), hj]
  have hin : inR (j : Int) ((w * h : Nat) : Int) = true := inR_of (by omega) (by omega)
  rw [gate_pos hin, gate_pos hin, gate_pos (by decide), gate_pos hin, gate_pos hin, getI_get hjd, hcol, Int.toNat_natCast, bindO_of hsq]
  rw [gate_pos (by simpa using hsn), hacr, gate_pos (inR_of (by omega) (by omega)), gate_pos (inR_of (by omega) (by omega)), g0, bindO_of hrep, bindO_of hflat]
  simp only [decide_eq_true_eq, decide_true, Bool.not_true, Bool.false_eq_true, if_false]
  rw [drawn_true N hN, equal_eq N dots dots (by omega) (by omega)]
  have eb : bindO (some true) (fun r88 : Bool => if (!r88) = true then some true else bindO (some (decide (dots = dots))) (fun r111 : Bool => if (!r111) = true then some true else some (decide ((([] : List Int).length : Int) > 0))) none) none = some false := by
    simp [bindO]
  rw [bindO_of eb, if_neg (by simp), gate_pos (by simpa using hwn), gate_pos (by simpa using hsn), gate_pos (by simpa using hwn), gate_pos (by simpa using hsn), sq_int hs1 (by omega) hsj]
  rw [equalInt_eq N _ _ (by simp) (by simp; omega)]
  simp only [decide_true]
  rw [bindO_of rfl, if_pos rfl, List.length_replicate]
  have eM : (across w s : Int) * (across h s : Int) = ((across w s * across h s : Nat) : Int) := by simp
  rw [eM, w64 (x := ((across w s * across h s : Nat) : Int)) (by omega) (by omega), if_pos rfl, if_pos (by omega)]
  -- every dot has the color
  refine iter_rule (fun z => ∃ i : Nat, z = ((w : Int), (h : Int), dots, (w : Int), (h : Int), dots, [], (w : Int), (h : Int), dots.set j ((dots[j] + 1) % 16), [(sq w s j : Int)], (w : Int), (h : Int), List.replicate (w * h) dots[0], [dots[0]], (across w s : Int), (across h s : Int), List.replicate (across w s * across h s) dots[0], [(sq w s j : Int)], (i : Int), ()) ∧ i ≤ across w s * across h s) (fun z => across w s * across h s - z.2.2.2.2.2.2.2.2.2.2.2.2.2.2.2.2.2.2.2.1.toNat) (fun r => r = some true) ?_ N _ ⟨0, rfl, Nat.zero_le _⟩ (by simp; omega)
  rintro z again ⟨i, rfl, h1⟩ hag
  unfold wrackkeep2_PixSmall_i0_slices_ContainsFunc_i0_slices_IndexFunc.s0
  simp only [decide_eq_true_eq]
  by_cases hlt : i < across w s * across h s
  · rw [if_pos (by omega), gate_pos (inR_of (by omega) (by simp; omega)), gate_pos (inR_of (by omega) (by omega)), gate_pos (inR_of (by omega) (by omega)), g0, getI_get (by simpa using hlt)]
    rw [if_neg (by simp), w64 (x := (i : Int) + 1) (by omega) (by omega)]
    exact hag _ ⟨i + 1, by simp, by omega⟩ (by simp; omega)
  · rw [if_neg (by omega)]
    rfl

end Go.Proofs.Yteekijpcdcpjkaa
