/-
  PLAIN LAW: Small and Apart come to what the reference says.
-/
import Derived.Test.YteekijpcdcpjkaaPuPixApart
import Derived.Test.YteekijpcdcpjkaaPuEqInt
set_option linter.unusedVariables false
set_option linter.unusedSimpArgs false
namespace Go.Proofs.Yteekijpcdcpjkaa
open Go Go.Ab

theorem bindS {α R : Type} (a : α) (k : α → R) (s : R) : bindO (some a) k s = k a := rfl

theorem small_err (N : Nat) (hN : 1048577 < N) (w h : Int) (dots : List Int) (side : Int) (hb : picErr w h dots ≠ 0 ∨ side < 1 ∨ side > 64) :
    pix_Small N (w, h, dots) side = some (((0, (0, []))), if picErr w h dots ≠ 0 then picErr w h dots else 1) := by
  unfold pix_Small
  rw [bindO_of (check_eq N _ _ _ hN)]
  generalize picErr w h dots = e at *
  by_cases he : e = 0
  · subst he
    have hs : side < 1 ∨ side > 64 := by
      rcases hb with h | h
      · exact absurd rfl h
      · exact h
    simp only [decide_eq_true_eq, decide_true, Bool.not_true, Bool.false_eq_true, if_false, ne_eq, not_true_eq_false]
    have hb2 : (if side < 1 then some true else some (decide (side > 64))) = some true := by
      by_cases a : side < 1
      · rw [if_pos a]
      · rw [if_neg a]
        have : side > 64 := by omega
        simp [this]
    rw [bindO_of hb2, if_pos rfl]
  · simp [he]

theorem pixCompares_true (N : Nat) (p q : Int × Int × List Int) (side : Int) (hN : 1048577 < N) (hpd : ∀ x ∈ p.2.2, 0 ≤ x ∧ x < 256) (hqd : ∀ x ∈ q.2.2, 0 ≤ x ∧ x < 256) : wracklaw2_PixCompares N p q side = some true := by
  obtain ⟨pw, ph, pd⟩ := p
  obtain ⟨qw, qh, qd⟩ := q
  have hE1 := err_eq N pw ph pd hN
  have hE2 := err_eq N qw qh qd hN
  have hS0 : wrackref2_SamePicture N (0, (0, [])) (0, (0, [])) = some true := rfl
  have hQ0 : slices_Equal_int N [] [] = some true := by rw [equalInt_eq N [] [] (by simp) (by simp; omega)]; rfl
  have hpic := pictures_true N hN
  by_cases e1 : picErr pw ph pd = 0
  · obtain ⟨w, h, rfl, rfl, hw1, hw, hh1, hh, hl, hlt⟩ := picErr_zero e1
    by_cases wrong : side < 1 ∨ side > 64
    · -- the squares have no right side
      have hs := small_err N hN w h pd side (Or.inr wrong)
      have ha := apart_err N hN ((w : Int), (h : Int), pd) (qw, qh, qd) side (Or.inr (Or.inr (by omega)))
      simp only at ha
      have c13 : (if side < 1 then some true else some (decide (side > 64))) = some true := by
        by_cases a : side < 1
        · rw [if_pos a]
        · rw [if_neg a]
          have : side > 64 := by omega
          simp [this]
      unfold wracklaw2_PixCompares
      rw [bindO_of hs, bindO_of ha, bindO_of hpic, bindO_of hE1, bindO_of hE1]
      simp only [decide_eq_true_eq, c13, bindS, hE2]
      generalize picErr qw qh qd = e2
      simp only [e1, bindS, if_true, Bool.not_true, Bool.false_eq_true, if_false, ne_eq, not_true_eq_false]
      by_cases he2 : e2 = 0
      · subst he2
        simp [bindS, hS0, hQ0]
      · simp [bindS, hS0, hQ0, he2]
    · -- squares that there may be
      obtain ⟨s, rfl⟩ : ∃ s : Nat, side = (s : Int) := ⟨side.toNat, by omega⟩
      have hs1 : 1 ≤ s := by omega
      have hs : s ≤ 64 := by omega
      have hd : ∀ y ∈ pd, 0 ≤ y ∧ y < 16 := fun y hy => ⟨(hpd y hy).1, hlt y hy⟩
      have hsm := small_eq hw1 hw hh1 hh hs1 hs hl hd N hN
      have hsr := shrunk_eq hw1 hw hh1 hh hs1 hs hl hd N hN
      have hsame : wrackref2_SamePicture N ((across w s : Int), ((across h s : Int), smallDots w h s pd)) ((across w s : Int), ((across h s : Int), smallDots w h s pd)) = some true := by
        simp [wrackref2_SamePicture, bindS]
      have c13 : (if (s : Int) < 1 then some true else some (decide ((s : Int) > 64))) = some false := by
        rw [if_neg (by omega)]
        have : ¬ (s : Int) > 64 := by omega
        simp [this]
      have a1 : ¬ (s : Int) < 1 := by omega
      by_cases right : picErr qw qh qd = 0 ∧ (w : Int) = qw ∧ (h : Int) = qh
      · obtain ⟨e2, rfl, rfl⟩ := right
        have hql : qd.length = w * h := by
          obtain ⟨w', h', g1, g2, _, _, _, _, g3, _⟩ := picErr_zero e2
          have : w = w' := by omega
          have : h = h' := by omega
          subst_vars
          exact g3
        have ha := apart_eq N hN hw1 hw hh1 hh hs1 hs hl hql e1 e2
        have hsq := squares_eq hw1 hh1 hs1 pd qd
        have hM : across w s * across h s ≤ 4096 := Nat.mul_le_mul (across_le hw1 hw) (across_le hh1 hh)
        have hsn : ¬ (s : Int) = 0 := by omega
        unfold wracklaw2_PixCompares
        rw [bindO_of hsm, bindO_of ha, bindO_of hpic, bindO_of hE1, bindO_of hE1]
        simp only [decide_eq_true_eq, c13, bindS, hE2, e1, e2, if_true, Bool.not_true, Bool.false_eq_true, if_false, decide_true, hsr]
        rw [gate_pos (by simpa using hsn), gate_pos (by simpa using hsn), across_ref hw1 hw hs1, across_ref hh1 hh hs1]
        have eM : (across w s : Int) * (across h s : Int) = ((across w s * across h s : Nat) : Int) := by simp
        rw [eM, w64 (x := ((across w s * across h s : Nat) : Int)) (by omega) (by omega)]
        have hloop := ref_squares N (none : Option (List Int × List Int × Int × Int × List Int × Int × Int × List Int × Unit)) hw1 hw hh1 hh hs1 hs hl hql N (fun x => some x) 0 0 0 0 (w : Int) (h : Int) (across w s : Int) (across h s : Int) (across w s : Int) (across h s : Int) (smallDots w h s pd) (smallDots w h s pd) (compactInts (sortInts (diffKeys w s pd qd (w * h))))
          (fun r => r = some (compactInts (sortInts (diffKeys w s pd qd (w * h))), ((List.range (across w s * across h s)).filter (diffIn w s pd qd (w * h))).map (fun k : Nat => (k : Int)), (across w s : Int), (across h s : Int), smallDots w h s pd, (across w s : Int), (across h s : Int), smallDots w h s pd, ())) rfl (by omega) (by omega)
        rw [bindO_of hloop]
        simp only [hsame, bindS, if_true]
        rw [hsq]
        have hlen : (((List.range (across w s * across h s)).filter (diffIn w s pd qd (w * h))).map (fun k : Nat => (k : Int))).length ≤ 100000 := by
          rw [List.length_map]
          have := List.length_filter_le (diffIn w s pd qd (w * h)) (List.range (across w s * across h s))
          simp only [List.length_range] at this
          omega
        rw [equalInt_eq N _ _ (by omega) (by omega)]
        simp [bindS]
      · have ha := apart_err N hN ((w : Int), (h : Int), pd) (qw, qh, qd) (s : Int) (by
          simp only
          by_cases e2 : picErr qw qh qd = 0
          · right; right; right; right
            by_cases g1 : (w : Int) = qw
            · right; exact fun g2 => right ⟨e2, g1, g2⟩
            · left; exact g1
          · exact Or.inr (Or.inl e2))
        simp only at ha
        unfold wracklaw2_PixCompares
        rw [bindO_of hsm, bindO_of ha, bindO_of hpic, bindO_of hE1, bindO_of hE1]
        simp only [decide_eq_true_eq, c13, bindS, hE2, e1, if_true, Bool.not_true, Bool.false_eq_true, if_false, decide_true, hsr, ne_eq, not_true_eq_false]
        by_cases e2 : picErr qw qh qd = 0
        · have hdim : ((if (!decide ((w : Int) = qw)) = true then some true else some (!decide ((h : Int) = qh))) : Option Bool) = some true := by
            by_cases g1 : (w : Int) = qw
            · have g2 : ¬ (h : Int) = qh := fun g2 => right ⟨e2, g1, g2⟩
              simp [g1, g2]
            · simp [g1]
          simp only [e2, if_true, hdim, bindS, if_false, not_true_eq_false]
          simp [bindS, hsame, hQ0, hsr]
        · simp [bindS, hsame, hQ0, e2, hsr]
  · have hs := small_err N hN pw ph pd side (Or.inl e1)
    have ha := apart_err N hN (pw, ph, pd) (qw, qh, qd) side (Or.inl e1)
    simp only at ha
    unfold wracklaw2_PixCompares
    rw [bindO_of hs, bindO_of ha, bindO_of hpic, bindO_of hE1, bindO_of hE1]
    obtain ⟨c, hc⟩ : ∃ c, (if side < 1 then some true else some (decide (side > 64))) = some c := by
      by_cases a : side < 1
      · exact ⟨true, if_pos a⟩
      · exact ⟨_, if_neg a⟩
    simp only [decide_eq_true_eq, hc, bindS]
    generalize picErr pw ph pd = e at *
    simp [bindS, hS0, hQ0, e1]

end Go.Proofs.Yteekijpcdcpjkaa
