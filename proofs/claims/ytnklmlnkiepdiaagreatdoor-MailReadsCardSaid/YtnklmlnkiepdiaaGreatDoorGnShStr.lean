import Derived.Test.YtnklmlnkiepdiaaGreatDoorAbIndexG
import Derived.Test.YtnklmlnkiepdiaaGreatDoorAbItoa
import Derived.Test.YtnklmlnkiepdiaaGreatDoorAbSplit
import Derived.Test.YtnklmlnkiepdiaaGreatDoorAbStrJoin
import Derived.Test.YtnklmlnkiepdiaaGreatDoorAbStrs
import Derived.Test.YtnklmlnkiepdiaaGreatDoorLays
import Derived.Test.YtnklmlnkiepdiaaGreatDoorGnEnv
import Derived.KernelRfl
set_option linter.unusedVariables false
namespace Go.Proofs.YtnklmlnkiepdiaaGreatDoor
open Go Go.Ab
def strconv_Itoa.T (N : Nat) : TFun := itoaT
theorem strconv_Itoa.sound (N : Nat) : Sound Tryz.prog 83 (strconv_Itoa.T N) := itoa_sound (ρ := laysM171_ren) (Go.Ab.enters_of Tryz.func83 (by kernel_rfl) (by kernel_rfl)) { laysM171 with } (fun w h => h.1)
def strings_ReplaceAll.T (N : Nat) : TFun := dropT
theorem strings_ReplaceAll.sound (N : Nat) : Sound Tryz.prog 125 (strings_ReplaceAll.T N) := drop_sound (ρ := lays155_ren) (Go.Ab.enters_of Tryz.func125 (by kernel_rfl) (by kernel_rfl)) { lays155 with } { sizeBuilder := by kernel_rfl, liesBuilder := by kernel_rfl, t5 := Tryz.underlying5, a5 := Tryz.isAgg5, z5 := Tryz.sizeOf5, v5 := Tryz.zeroValue5, infoByte := by kernel_rfl, cellsByte := by kernel_rfl, sizeByte := by kernel_rfl, neB5 := by decide } (fun w h => h.2.1)
def strings_genSplit.T (N : Nat) : TFun := splitT
theorem strings_genSplit.sound (N : Nat) : Sound Tryz.prog 81 (strings_genSplit.T N) := genSplit_sound (ρ := lays221_ren) (Go.Ab.enters_of Tryz.func81 (by kernel_rfl) (by kernel_rfl)) { lays221 with } (by kernel_rfl)
def strings_Trim.T (N : Nat) : TFun := trimT
theorem strings_Trim.sound (N : Nat) : Sound Tryz.prog 80 (strings_Trim.T N) := trim_sound (ρ := lays160_ren) (Go.Ab.enters_of Tryz.func80 (by kernel_rfl) (by kernel_rfl)) { lays160 with } (by kernel_rfl)
def strings_Index.T (N : Nat) : TFun := indexGT
theorem strings_Index.sound (N : Nat) : Sound Tryz.prog 51 (strings_Index.T N) := indexG_sound (ρ := lays143_ren) (Go.Ab.enters_of Tryz.func51 (by kernel_rfl) (by kernel_rfl)) { lays143 with } (fun w h => h.2.1)
def strings_Join.T (N : Nat) : TFun := joinT
theorem strings_Join.sound (N : Nat) : Sound Tryz.prog 96 (strings_Join.T N) := join_sound (ρ := lays156_ren) (Go.Ab.enters_of Tryz.func96 (by kernel_rfl) (by kernel_rfl)) { lays156 with } { sizeBuilder := by kernel_rfl, liesBuilder := by kernel_rfl, t5 := Tryz.underlying5, a5 := Tryz.isAgg5, z5 := Tryz.sizeOf5, v5 := Tryz.zeroValue5, infoByte := by kernel_rfl, cellsByte := by kernel_rfl, sizeByte := by kernel_rfl, neB5 := by decide }
end Go.Proofs.YtnklmlnkiepdiaaGreatDoor
