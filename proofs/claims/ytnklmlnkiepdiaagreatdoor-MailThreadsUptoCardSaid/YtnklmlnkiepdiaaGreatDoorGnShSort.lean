import Derived.Test.YtnklmlnkiepdiaaGreatDoorAbSort
import Derived.Test.YtnklmlnkiepdiaaGreatDoorLays
import Derived.Test.YtnklmlnkiepdiaaGreatDoorGnEnv
set_option linter.unusedVariables false
namespace Go.Proofs.YtnklmlnkiepdiaaGreatDoor
open Go Go.Ab
theorem sort_sound : SoundIn Tryz.prog 88 sortJ := sortJ_sound (Go.Ab.enters_of Tryz.func88 (by kernel_rfl) (by kernel_rfl)) (fun p cap w => Any.slices_Sort_int_none lays189 p cap w) (fun blk off cap zs w h1 h2 h3 => Any.slices_Sort_int lays189 blk off cap zs w h1 h2 h3)
end Go.Proofs.YtnklmlnkiepdiaaGreatDoor
