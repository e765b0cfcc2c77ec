import Derived.Test.YtnklmlnkiepdiaaDoorAbBuild
import Derived.Test.YtnklmlnkiepdiaaDoorLays
import Derived.Test.YtnklmlnkiepdiaaDoorGnEnv
import Derived.KernelRfl
set_option linter.unusedVariables false
set_option maxRecDepth 100000
namespace Go.Proofs.YtnklmlnkiepdiaaDoor
open Go Go.Ab Go.Shelf
theorem builderX : Builder.X72 Tryd.prog lays156_ren := { sizeBuilder := by kernel_rfl, liesBuilder := by kernel_rfl }
theorem copy_sound : SoundIn Tryd.prog 43 (copyJ 63) := copyJ_sound (Go.Ab.enters_of Tryd.func43 (by kernel_rfl) (by kernel_rfl)) (fun b w h => Any.Builder_copyCheck_used (ρ := lays156_ren) { lays156 with } builderX b w h) (fun b w h1 h2 h3 => Any.Builder_copyCheck_fresh (ρ := lays156_ren) { lays156 with } builderX b w h1 h2 h3)
theorem builderE : Builder.Extra Tryd.prog lays156_ren := { sizeBuilder := by kernel_rfl, liesBuilder := by kernel_rfl, t5 := Tryd.underlying5, a5 := Tryd.isAgg5, z5 := Tryd.sizeOf5, v5 := Tryd.zeroValue5, infoByte := by kernel_rfl, cellsByte := by kernel_rfl, sizeByte := by kernel_rfl, neB5 := by decide }
theorem string_sound : SoundIn Tryd.prog 34 stringJ := stringJ_sound (ρ := lays156_ren) { lays156 with } builderE rfl (Go.Ab.enters_of Tryd.func34 (by kernel_rfl) (by kernel_rfl))
end Go.Proofs.YtnklmlnkiepdiaaDoor
