import Derived.Test.YtnklmlnkiepdiaaGreatDoorAbBuild
import Derived.Test.YtnklmlnkiepdiaaGreatDoorLays
import Derived.Test.YtnklmlnkiepdiaaGreatDoorGnEnv
import Derived.KernelRfl
set_option linter.unusedVariables false
set_option maxRecDepth 100000
namespace Go.Proofs.YtnklmlnkiepdiaaGreatDoor
open Go Go.Ab Go.Shelf
theorem builderE : Builder.Extra Tryz.prog lays156_ren := { sizeBuilder := by kernel_rfl, liesBuilder := by kernel_rfl, t5 := Tryz.underlying5, a5 := Tryz.isAgg5, z5 := Tryz.sizeOf5, v5 := Tryz.zeroValue5, infoByte := by kernel_rfl, cellsByte := by kernel_rfl, sizeByte := by kernel_rfl, neB5 := by decide }
theorem string_sound : SoundIn Tryz.prog 87 stringJ := stringJ_sound (ρ := lays156_ren) { lays156 with } builderE rfl (Go.Ab.enters_of Tryz.func87 (by kernel_rfl) (by kernel_rfl))
theorem builderX : Builder.X72 Tryz.prog lays156_ren := { sizeBuilder := by kernel_rfl, liesBuilder := by kernel_rfl }
theorem copy_sound : SoundIn Tryz.prog 134 (copyJ 117) := copyJ_sound (Go.Ab.enters_of Tryz.func134 (by kernel_rfl) (by kernel_rfl)) (fun b w h => Any.Builder_copyCheck_used (ρ := lays156_ren) { lays156 with } builderX b w h) (fun b w h1 h2 h3 => Any.Builder_copyCheck_fresh (ρ := lays156_ren) { lays156 with } builderX b w h1 h2 h3)
end Go.Proofs.YtnklmlnkiepdiaaGreatDoor
