import Derived.Test.YthkpfkjbflcpnaaDoorAbSplit
import Derived.Test.YthkpfkjbflcpnaaDoorAbStrJoin
import Derived.Test.YthkpfkjbflcpnaaDoorAbStrs
import Derived.Test.YthkpfkjbflcpnaaDoorLays
import Derived.KernelRfl
set_option linter.unusedVariables false
namespace Go.Proofs.YthkpfkjbflcpnaaDoor
open Go Go.Ab
def strings_genSplit.T (N : Nat) : TFun := splitT
theorem strings_genSplit.sound (N : Nat) : Sound Tryd.prog 34 (strings_genSplit.T N) := genSplit_sound (ρ := lays221_ren) (Go.Ab.enters_of Tryd.func34 (by kernel_rfl) (by kernel_rfl)) { lays221 with } (by kernel_rfl)
def strings_Join.T (N : Nat) : TFun := joinT
theorem strings_Join.sound (N : Nat) : Sound Tryd.prog 40 (strings_Join.T N) := join_sound (ρ := lays156_ren) (Go.Ab.enters_of Tryd.func40 (by kernel_rfl) (by kernel_rfl)) { lays156 with } { sizeBuilder := by kernel_rfl, liesBuilder := by kernel_rfl, t5 := Tryd.underlying5, a5 := Tryd.isAgg5, z5 := Tryd.sizeOf5, v5 := Tryd.zeroValue5, infoByte := by kernel_rfl, cellsByte := by kernel_rfl, sizeByte := by kernel_rfl, neB5 := by decide }
def strings_Index.T (N : Nat) : TFun := indexT
theorem strings_Index.sound (N : Nat) : Sound Tryd.prog 56 (strings_Index.T N) := strIndex_sound (ρ := lays143_ren) (Go.Ab.enters_of Tryd.func56 (by kernel_rfl) (by kernel_rfl)) { lays143 with }
def strings_Trim.T (N : Nat) : TFun := trimT
theorem strings_Trim.sound (N : Nat) : Sound Tryd.prog 36 (strings_Trim.T N) := trim_sound (ρ := lays160_ren) (Go.Ab.enters_of Tryd.func36 (by kernel_rfl) (by kernel_rfl)) { lays160 with } (by kernel_rfl)
end Go.Proofs.YthkpfkjbflcpnaaDoor
