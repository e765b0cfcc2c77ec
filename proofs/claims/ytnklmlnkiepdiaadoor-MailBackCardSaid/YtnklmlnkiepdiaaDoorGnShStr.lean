import Derived.Test.YtnklmlnkiepdiaaDoorAbItoa
import Derived.Test.YtnklmlnkiepdiaaDoorAbSplit
import Derived.Test.YtnklmlnkiepdiaaDoorLays
import Derived.Test.YtnklmlnkiepdiaaDoorGnEnv
import Derived.KernelRfl
set_option linter.unusedVariables false
namespace Go.Proofs.YtnklmlnkiepdiaaDoor
open Go Go.Ab
def strings_ReplaceAll.T (N : Nat) : TFun := dropT
theorem strings_ReplaceAll.sound (N : Nat) : Sound Tryd.prog 53 (strings_ReplaceAll.T N) := drop_sound (ρ := lays155_ren) (Go.Ab.enters_of Tryd.func53 (by kernel_rfl) (by kernel_rfl)) { lays155 with } { sizeBuilder := by kernel_rfl, liesBuilder := by kernel_rfl, t5 := Tryd.underlying5, a5 := Tryd.isAgg5, z5 := Tryd.sizeOf5, v5 := Tryd.zeroValue5, infoByte := by kernel_rfl, cellsByte := by kernel_rfl, sizeByte := by kernel_rfl, neB5 := by decide } (fun w h => h.2.1)
def strconv_Itoa.T (N : Nat) : TFun := itoaT
theorem strconv_Itoa.sound (N : Nat) : Sound Tryd.prog 30 (strconv_Itoa.T N) := itoa_sound (ρ := laysM171_ren) (Go.Ab.enters_of Tryd.func30 (by kernel_rfl) (by kernel_rfl)) { laysM171 with } (fun w h => h.1)
def strings_genSplit.T (N : Nat) : TFun := splitT
theorem strings_genSplit.sound (N : Nat) : Sound Tryd.prog 49 (strings_genSplit.T N) := genSplit_sound (ρ := lays221_ren) (Go.Ab.enters_of Tryd.func49 (by kernel_rfl) (by kernel_rfl)) { lays221 with } (by kernel_rfl)
end Go.Proofs.YtnklmlnkiepdiaaDoor
