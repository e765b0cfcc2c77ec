import Derived.Test.YtnklmlnkiepdiaaDoorAbAtoi
import Derived.Test.YtnklmlnkiepdiaaDoorLays
import Derived.Test.YtnklmlnkiepdiaaDoorGnEnv
import Derived.KernelRfl
set_option linter.unusedVariables false
set_option maxRecDepth 100000
namespace Go.Proofs.YtnklmlnkiepdiaaDoor
open Go Go.Ab Go.Shelf
theorem cut_sound : SoundIn Tryd.prog 80 cutJ := Go.Ab.cut_sound (ρ := lays145_ren) (Go.Ab.enters_of Tryd.func80 (by kernel_rfl) (by kernel_rfl)) { lays145 with } (fun w h => h.2.1)
theorem atoi_sound : SoundIn Tryd.prog 56 atoiJ := Go.Ab.atoi_sound (ρ := laysC172_ren) (Go.Ab.enters_of Tryd.func56 (by kernel_rfl) (by kernel_rfl)) { laysC172 with } (fun w h => ⟨h.2.2.1, h.2.2.2⟩)
end Go.Proofs.YtnklmlnkiepdiaaDoor
