/-
  PLAIN LAW: FsPaths.
-/
import Derived.Test.YthkpfkjbflcpnaaDoorPuPaths
set_option linter.unusedVariables false
set_option linter.unusedSimpArgs false
namespace Go.Proofs.YthkpfkjbflcpnaaDoor
open Go Go.Ab

theorem fsPaths_true (N : Nat) (s dir : List Int) (hs : s.length ≤ 1048576) (hd : dir.length ≤ 1048576) (hN : 1048577 < N) : wracklaw2_FsPaths N s dir = some true := by
  have hu : fs_Under N s dir = some (decide (s.take (dir ++ [47]).length = dir ++ [47])) := by
    unfold fs_Under
    rw [gate_pos (by simp only [decide_eq_true_eq, List.length_cons, List.length_nil]; omega), bindO_of (prefix_eq N _ _)]
  have hne := splitI_ne 47 s
  have hlen := (splitI_len 47 s).1
  unfold wracklaw2_FsPaths
  rw [bindO_of (way_eq N s hs hN)]
  have hj : ((if pathB s = true then some ((0 : Int), ()) else some ((6 : Int), ())) : Option (Int × Unit)) = some ((if pathB s = true then (0 : Int) else 6), ()) := by
    split <;> rfl
  rw [bindO_of hj]
  simp only
  rw [bindO_of (split_eq N s hs), bindO_of (paths_true N hN), if_pos rfl, bindO_of (named_eq N s hs hN), bindO_of (word_eq N s)]
  rw [if_pos (by simp), bindO_of (path_eq N s hs hN), if_pos (by simp), bindO_of (dir_eq N s hs hN), bindO_of (above_eq N s hs), if_pos (by simp), bindO_of (name_eq N s hs hN)]
  have hl0 : 0 < (splitI 47 s).length := List.length_pos_iff.2 hne
  rw [w64 (by omega) (by omega), gate_pos (inR_of (by omega) (by omega)), gate_pos (inR_of (by omega) (by omega))]
  have e : ((splitI 47 s).length : Int) - 1 = ((splitI 47 s).length - 1 : Nat) := by omega
  have hb : getI [] (splitI 47 s) (((splitI 47 s).length : Int) - 1) = baseI s := by
    rw [e, getI_nat]
    unfold baseI
    rw [List.getLastD_eq_getLast?, List.getLast?_eq_getElem?, List.getD_eq_getElem?_getD]
  rw [hb, if_pos (by simp), bindO_of hu, gate_pos (by simp only [decide_eq_true_eq, List.length_cons, List.length_nil]; omega), bindO_of (prefix_eq N _ _)]
  simp [bindO]

end Go.Proofs.YthkpfkjbflcpnaaDoor
