import Derived.Test.YteekijpcdcpjkaaDoorAbSplit
import Derived.Test.YteekijpcdcpjkaaDoorLays
import Derived.KernelRfl
set_option linter.unusedVariables false
namespace Go.Proofs.YteekijpcdcpjkaaDoor
open Go Go.Ab
def strings_genSplit.T (N : Nat) : TFun := splitT
theorem strings_genSplit.sound (N : Nat) : Sound Tryd.prog 65 (strings_genSplit.T N) := genSplit_sound (ρ := lays221_ren) (Go.Ab.enters_of Tryd.func65 (by kernel_rfl) (by kernel_rfl)) { lays221 with } (by kernel_rfl)
end Go.Proofs.YteekijpcdcpjkaaDoor
