import Derived.Test.YteekijpcdcpjkaaDoorAbSplit
import Derived.Test.YteekijpcdcpjkaaDoorAbStrs
import Derived.Test.YteekijpcdcpjkaaDoorLays
import Derived.KernelRfl
set_option linter.unusedVariables false
namespace Go.Proofs.YteekijpcdcpjkaaDoor
open Go Go.Ab
def strings_genSplit.T (N : Nat) : TFun := splitT
theorem strings_genSplit.sound (N : Nat) : Sound Tryd.prog 65 (strings_genSplit.T N) := genSplit_sound (ρ := lays221_ren) (Go.Ab.enters_of Tryd.func65 (by kernel_rfl) (by kernel_rfl)) { lays221 with } (by kernel_rfl)
def strings_Index.T (N : Nat) : TFun := indexT
theorem strings_Index.sound (N : Nat) : Sound Tryd.prog 71 (strings_Index.T N) := strIndex_sound (ρ := lays143_ren) (Go.Ab.enters_of Tryd.func71 (by kernel_rfl) (by kernel_rfl)) { lays143 with }
def strings_Trim.T (N : Nat) : TFun := trimT
theorem strings_Trim.sound (N : Nat) : Sound Tryd.prog 67 (strings_Trim.T N) := trim_sound (ρ := lays160_ren) (Go.Ab.enters_of Tryd.func67 (by kernel_rfl) (by kernel_rfl)) { lays160 with } (by kernel_rfl)
end Go.Proofs.YteekijpcdcpjkaaDoor
