import Derived.Test.YtnklmlnkiepdiaaGreatDoorAbAtoi
import Derived.Test.YtnklmlnkiepdiaaGreatDoorLays
import Derived.Test.YtnklmlnkiepdiaaGreatDoorGnEnv
import Derived.KernelRfl
set_option linter.unusedVariables false
set_option maxRecDepth 100000
namespace Go.Proofs.YtnklmlnkiepdiaaGreatDoor
open Go Go.Ab Go.Shelf
theorem cut_sound : SoundIn Tryz.prog 142 cutJ := Go.Ab.cut_sound (ρ := lays145_ren) (Go.Ab.enters_of Tryz.func142 (by kernel_rfl) (by kernel_rfl)) { lays145 with } (fun w h => h.2.1)
theorem atoi_sound : SoundIn Tryz.prog 90 atoiJ := Go.Ab.atoi_sound (ρ := laysC172_ren) (Go.Ab.enters_of Tryz.func90 (by kernel_rfl) (by kernel_rfl)) { laysC172 with } (fun w h => ⟨h.2.2.1, h.2.2.2⟩)
end Go.Proofs.YtnklmlnkiepdiaaGreatDoor
