/-
  PLAIN LAW: ArchMakes.
-/
import Derived.Test.YteekijpcdcpjkaaDoorPuArchive
set_option linter.unusedVariables false
set_option linter.unusedSimpArgs false
namespace Go.Proofs.YteekijpcdcpjkaaDoor
open Go Go.Ab

theorem archMakes_true (N : Nat) (l : List Itm) (hp : ∀ e ∈ l, e.1.length ≤ 1048576) (hN : 1048577 < N) : wracklaw2_ArchMakes N l = some true := by
  obtain ⟨r, hc, hi, h0⟩ := icheck_same N l hp hN
  unfold wracklaw2_ArchMakes
  rw [bindO_of (make_eq N l r hc h0 hp hN), bindO_of hi, bindO_of (archives_eq N (by omega))]
  simp only [Bool.not_true, Bool.false_eq_true, if_false]
  rw [bindO_of hc]
  simp only [bindO, decide_true, Bool.not_true, Bool.false_eq_true, if_false]
  by_cases hr : r = 0
  · subst hr
    obtain ⟨hl, hd⟩ := h0 rfl
    simp only [decide_true, if_true]
    rw [archBytes_eq N l hl hd hp hN]
    simp only
    by_cases hbig : 65536 < (archiveI l).length
    · rw [if_pos hbig, if_pos (by simp; omega)]
      simp only [decide_true, if_true]
      rw [equal_eq N [] [] (by simp) (by simp; omega)]
      rfl
    · rw [if_neg hbig, if_neg (by simp; omega)]
      simp only [decide_true, if_true]
      rw [equal_eq N _ _ (by omega) (by omega)]
      simp
  · simp only [decide_eq_true_eq, if_neg hr]
    simp only [if_true]
    rw [equal_eq N [] [] (by simp) (by simp; omega)]
    rfl

end Go.Proofs.YteekijpcdcpjkaaDoor
