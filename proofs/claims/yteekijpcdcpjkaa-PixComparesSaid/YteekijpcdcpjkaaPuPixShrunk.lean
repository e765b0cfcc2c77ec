/-
  PLAIN LAW: Small: the reference's two tables come to the same sums.
-/
import Derived.Test.YteekijpcdcpjkaaPuPixSmall
set_option linter.unusedVariables false
set_option linter.unusedSimpArgs false
set_option linter.unusedSectionVars false
namespace Go.Proofs.Yteekijpcdcpjkaa
open Go Go.Ab

theorem set_map {M j : Nat} {g g' : Nat → Int} {v : Int} (hj : j < M) (h1 : g' j = v) (h2 : ∀ k, k ≠ j → g' k = g k) : ((List.range M).map g).set j v = (List.range M).map g' := by
  apply List.ext_getElem
  · simp
  · intro i h3 h4
    simp only [List.getElem_set, List.getElem_map, List.getElem_range]
    by_cases hij : j = i
    · subst hij; rw [if_pos rfl, h1]
    · rw [if_neg hij, h2 i (Ne.symm hij)]

theorem getI_map {M j : Nat} {g : Nat → Int} (hj : j < M) : getI (0 : Int) ((List.range M).map g) (j : Int) = g j := by
  rw [getI_get (by simpa using hj)]
  simp

theorem w64n (n : Nat) (h : n ≤ 1000000000000) : IntKind.wrap .i64 (n : Int) = (n : Int) := w64 (by omega) (by omega)

/-- a dot's square, as Go works it out -/
theorem sq_int {w s i : Nat} (hs1 : 1 ≤ s) (hi : i ≤ 100000) (hq : sq w s i ≤ 100000) :
    IntKind.wrap .i64 (IntKind.wrap .i64 (IntKind.wrap .i64 (Int.tdiv (IntKind.wrap .i64 (Int.tdiv (i : Int) (w : Int))) (s : Int)) * (across w s : Int)) + IntKind.wrap .i64 (Int.tdiv (Int.tmod (i : Int) (w : Int)) (s : Int))) = (sq w s i : Int) := by
  have h1 : i / w ≤ i := Nat.div_le_self _ _
  have h2 : i / w / s ≤ i / w := Nat.div_le_self _ _
  have h3 : i % w ≤ i := Nat.mod_le _ _
  have h4 : i % w / s ≤ i % w := Nat.div_le_self _ _
  have e3 : Int.tmod (i : Int) (w : Int) = ((i % w : Nat) : Int) := by rw [Int.tmod_eq_emod_of_nonneg (by omega)]; simp
  have hq' : i / w / s * across w s + i % w / s ≤ 100000 := hq
  rw [tdiv_nat, w64n (i / w) (Nat.le_trans h1 (by omega)), tdiv_nat, w64n (i / w / s) (Nat.le_trans h2 (Nat.le_trans h1 (by omega))), e3, tdiv_nat, w64n (i % w / s) (Nat.le_trans h4 (Nat.le_trans h3 (by omega)))]
  have e4 : ((i / w / s : Nat) : Int) * (across w s : Int) = ((i / w / s * across w s : Nat) : Int) := by simp
  rw [e4, w64n (i / w / s * across w s) (Nat.le_trans (Nat.le_add_right _ _) (Nat.le_trans hq' (by omega)))]
  have e5 : ((i / w / s * across w s : Nat) : Int) + ((i % w / s : Nat) : Int) = (sq w s i : Int) := by unfold sq; simp
  rw [e5, w64 (by omega) (by omega)]

theorem across_le {w s : Nat} (hw : 1 ≤ w) (hw2 : w ≤ 64) : across w s ≤ 64 := by
  unfold across
  have := Nat.div_le_self (w - 1) s
  omega

theorem across_ref {w s : Nat} (hw1 : 1 ≤ w) (hw : w ≤ 64) (hs1 : 1 ≤ s) : IntKind.wrap .i64 (IntKind.wrap .i64 (Int.tdiv (IntKind.wrap .i64 ((w : Int) - 1)) (s : Int)) + 1) = (across w s : Int) := by
  have e1 : (w : Int) - 1 = ((w - 1 : Nat) : Int) := by omega
  have h1 := Nat.div_le_self (w - 1) s
  rw [e1, w64 (x := ((w - 1 : Nat) : Int)) (by omega) (by omega), tdiv_nat, w64n ((w - 1) / s) (Nat.le_trans h1 (by omega))]
  have e2 : (((w - 1) / s : Nat) : Int) + 1 = (across w s : Int) := by unfold across; simp
  have := across_le (s := s) hw1 hw
  rw [e2, w64 (by omega) (by omega)]

section
variable {w h s : Nat} {dots : List Int} (hw1 : 1 ≤ w) (hw : w ≤ 64) (hh1 : 1 ≤ h) (hh : h ≤ 64) (hs1 : 1 ≤ s) (hs : s ≤ 64) (hl : dots.length = w * h) (hd : ∀ y ∈ dots, 0 ≤ y ∧ y < 16)
include hw1 hw hh1 hh hs1 hs hl hd

theorem shrunk_eq (N : Nat) (hN : 1048577 < N) : wrackref2_Shrunk N ((w : Int), (h : Int), dots) (s : Int) = some ((across w s : Int), ((across h s : Int), smallDots w h s dots)) := by
  have hwh : w * h ≤ 4096 := Nat.mul_le_mul hw hh
  have hA := across_le (s := s) hw1 hw
  have hB := across_le (s := s) hh1 hh
  obtain ⟨M, hM⟩ : ∃ M, M = across w s * across h s := ⟨_, rfl⟩
  have hM2 : M ≤ 4096 := by rw [hM]; exact Nat.mul_le_mul hA hB
  have hsn : ¬ (s : Int) = 0 := by omega
  have hwn : ¬ (w : Int) = 0 := by omega
  unfold wrackref2_Shrunk
  simp only [decide_eq_true_eq]
  rw [gate_pos (by simpa using hsn), gate_pos (by simpa using hsn), across_ref hw1 hw hs1, across_ref hh1 hh hs1]
  have eM : (across w s : Int) * (across h s : Int) = (M : Int) := by rw [hM]; simp
  rw [eM, w64 (x := (M : Int)) (by omega) (by omega)]
  have hg : (decide (0 ≤ (M : Int) ∧ (M : Int) ≤ (M : Int)) && roomFor ((M : Int)).toNat 8) = true := by
    rw [room_of (by simp; omega) (by simp; omega)]
    simp
  rw [gate_pos hg, gate_pos hg]
  have e0 : ∀ f, List.replicate ((M : Int)).toNat (0 : Int) = (List.range M).map fun k => acc w s f k 0 := fun f => by
    apply List.ext_getElem
    · simp
    · intro i h1 h2
      simp [acc]
  rw [show (List.replicate ((M : Int)).toNat (0 : Int), List.replicate ((M : Int)).toNat (0 : Int), (0 : Int), (w : Int), (h : Int), dots, (0 : Int), (0 : Int), (across w s : Int), (across h s : Int), ()) = ((List.range M).map (fun k => acc w s (fd dots) k 0), (List.range M).map (fun k => acc w s (f1 (w * h)) k 0), ((0 : Nat) : Int), (w : Int), (h : Int), dots, (0 : Int), (0 : Int), (across w s : Int), (across h s : Int), ()) by rw [← e0, ← e0]; rfl]
  refine iter_rule (fun z => ∃ i : Nat, z = ((List.range M).map (fun k => acc w s (fd dots) k i), (List.range M).map (fun k => acc w s (f1 (w * h)) k i), (i : Int), (w : Int), (h : Int), dots, (0 : Int), (0 : Int), (across w s : Int), (across h s : Int), ()) ∧ i ≤ w * h) (fun z => w * h - z.2.2.1.toNat) (fun r => r = some ((across w s : Int), ((across h s : Int), smallDots w h s dots))) ?_ N _ ⟨0, rfl, Nat.zero_le _⟩ (by simp; omega)
  rintro z again ⟨i, rfl, h1⟩ hag
  unfold wrackref2_Shrunk.s0
  simp only [decide_eq_true_eq]
  by_cases hlt : i < w * h
  · have hq : sq w s i < M := by rw [hM]; exact sq_lt hw1 hs1 hh1 hlt
    rw [if_pos (by rw [hl]; omega), gate_pos (inR_of (by omega) (by rw [hl]; omega)), gate_pos (by simpa using hwn), gate_pos (by simpa using hsn), gate_pos (by simpa using hwn), gate_pos (by simpa using hsn)]
    rw [sq_int hs1 (by omega) (by omega)]
    have hin : ∀ g : Nat → Int, inR (sq w s i : Int) (((List.range M).map g).length : Int) = true := fun g => inR_of (by omega) (by simp; omega)
    rw [gate_pos (hin _), gate_pos (hin _), gate_pos (hin _), gate_pos (hin _), gate_pos (hin _), gate_pos (hin _), gate_pos (hin _), gate_pos (hin _)]
    rw [getI_map hq, getI_map hq, getI_get (xs := dots) (i := i) (by omega)]
    have hdi := hd dots[i] (List.getElem_mem _)
    have b1 := acc_bound w s (fd dots) (sq w s i) 15 (by omega) (fd_bound hd) i
    have b2 := acc_bound w s (f1 (w * h)) (sq w s i) 1 (by omega) (f1_bound _) i
    rw [w64 (x := dots[i]) (by omega) (by omega), w64 (x := acc w s (fd dots) (sq w s i) i + dots[i]) (by omega) (by omega), w64 (x := acc w s (f1 (w * h)) (sq w s i) i + 1) (by omega) (by omega), w64 (x := (i : Int) + 1) (by omega) (by omega)]
    refine hag _ ⟨i + 1, ?_, by omega⟩ (by simp; omega)
    have g1 : acc w s (fd dots) (sq w s i) (i + 1) = acc w s (fd dots) (sq w s i) i + dots[i] := by
      rw [acc_succ, if_pos rfl]
      unfold fd
      have : i < dots.length := by omega
      simp [this]
    have g2 : acc w s (f1 (w * h)) (sq w s i) (i + 1) = acc w s (f1 (w * h)) (sq w s i) i + 1 := by
      rw [acc_succ, if_pos rfl]
      unfold f1
      rw [if_pos hlt]
    have g3 : ∀ f k, k ≠ sq w s i → acc w s f k (i + 1) = acc w s f k i := fun f k hk => by
      rw [acc_succ, if_neg (Ne.symm hk)]; omega
    simp only [Int.toNat_natCast]
    rw [set_map (g' := fun k => acc w s (fd dots) k (i + 1)) hq g1 (fun k hk => g3 _ k hk), set_map (g' := fun k => acc w s (f1 (w * h)) k (i + 1)) hq g2 (fun k hk => g3 _ k hk)]
    simp
  · have hi : i = w * h := by omega
    subst hi
    rw [if_neg (by rw [hl]; omega)]
    -- the second loop
    refine iter_rule (fun z => ∃ k : Nat, z = ((List.range M).map (fun k => acc w s (fd dots) k (w * h)), (List.range M).map (fun k => acc w s (f1 (w * h)) k (w * h)), (k : Int), (0 : Int), (0 : Int), (across w s : Int), (across h s : Int), (List.range k).map (sqVal w h s dots), ()) ∧ k ≤ M) (fun z => M - z.2.2.1.toNat) (fun r => r = some ((across w s : Int), ((across h s : Int), smallDots w h s dots))) ?_ N _ ⟨0, rfl, Nat.zero_le _⟩ (by simp; omega)
    rintro z again ⟨k, rfl, h2⟩ hag2
    unfold wrackref2_Shrunk.s1
    simp only [decide_eq_true_eq, List.length_map, List.length_range]
    by_cases hk : k < M
    · rw [if_pos (by omega)]
      have hin : inR (k : Int) (M : Int) = true := inR_of (by omega) (by omega)
      rw [gate_pos hin, gate_pos hin, gate_pos hin, gate_pos hin, getI_map hk, getI_map hk]
      -- there is a dot in it
      have hpos : ¬ acc w s (f1 (w * h)) k (w * h) = 0 := by
        have hAp : 0 < across w s := Nat.succ_pos _
        obtain ⟨ky, kx, e, hkx, hky⟩ : ∃ ky kx, k = ky * across w s + kx ∧ kx < across w s ∧ ky < across h s := by
          refine ⟨k / across w s, k % across w s, ?_, Nat.mod_lt _ hAp, ?_⟩
          · have := Nat.div_add_mod k (across w s)
            rw [Nat.mul_comm] at this
            exact this.symm
          · rw [Nat.div_lt_iff_lt_mul hAp, Nat.mul_comm]
            rw [hM] at hk; exact hk
        have hx : kx * s < w := across_in hw1 hs1 hkx
        have hy : ky * s < h := across_in hh1 hs1 hky
        have hvw : (ky * s + 1) * w ≤ h * w := Nat.mul_le_mul_right _ (by omega)
        rw [Nat.add_mul, Nat.mul_comm h] at hvw
        have i1 : sq w s (ky * s * w + kx * s) = k := by
          rw [e]
          exact (sq_iff hw1 hs1 hx hkx).2 ⟨Nat.mul_div_cancel _ (by omega), Nat.mul_div_cancel _ (by omega)⟩
        obtain ⟨d, hd2⟩ := Nat.exists_eq_add_of_le (show ky * s * w + kx * s + 1 ≤ w * h by omega)
        have hm := acc_mono w s (f1 (w * h)) k (fun i => (f1_bound _ i).1) (ky * s * w + kx * s + 1) d
        rw [← hd2, acc_succ, if_pos i1] at hm
        have hb := acc_bound w s (f1 (w * h)) k 1 (by omega) (f1_bound _) (ky * s * w + kx * s)
        have e1 : f1 (w * h) (ky * s * w + kx * s) = 1 := by unfold f1; rw [if_pos (by omega)]
        rw [e1] at hm
        omega
      rw [gate_pos (by simpa using hpos), gate_pos (room_of (by simp; omega) (by simp; omega)), w64 (x := (k : Int) + 1) (by omega) (by omega)]
      refine hag2 _ ⟨k + 1, ?_, by omega⟩ (by simp; omega)
      rw [List.range_succ, List.map_append, List.map_cons, List.map_nil]
      unfold sqVal
      simp
    · have hk : k = M := by omega
      subst hk
      rw [if_neg (by omega)]
      unfold smallDots
      rw [hM]
end

end Go.Proofs.Yteekijpcdcpjkaa
