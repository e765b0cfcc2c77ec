import Derived.Test.YthkpfkjbflcpnaaDoorAbCtx
import Derived.Test.YthkpfkjbflcpnaaDoorProg
import Derived.KernelRfl
set_option linter.unusedVariables false
namespace Go.Proofs.YthkpfkjbflcpnaaDoor
open Go Go.Ab
def gam : List (TypeId × Ty) := [(3, (.int .i64)), (4, .bool), (5, (.int .u8)), (9, .str), (22, (.int .i64)), (24, (.slice .str))]
noncomputable def env : Env := mkEnv Tryd.prog gam
theorem tyOK3 : TyOK Tryd.prog 3 (.int .i64) := ⟨by kernel_rfl, by kernel_rfl⟩
theorem tyOK4 : TyOK Tryd.prog 4 .bool := ⟨by kernel_rfl, by kernel_rfl⟩
theorem tyOK5 : TyOK Tryd.prog 5 (.int .u8) := ⟨by kernel_rfl, by kernel_rfl⟩
theorem tyOK9 : TyOK Tryd.prog 9 .str := ⟨by kernel_rfl, by kernel_rfl⟩
theorem tyOK22 : TyOK Tryd.prog 22 (.int .i64) := ⟨by kernel_rfl, by kernel_rfl⟩
theorem tyOK24 : TyOK Tryd.prog 24 (.slice .str) := ⟨by kernel_rfl, by kernel_rfl⟩
theorem env_ok : EnvOK env := mkEnv_ok ⟨tyOK3, tyOK4, tyOK5, tyOK9, tyOK22, tyOK24, trivial⟩
theorem mix : Tryd.prog.follows .mixedOrders = true := by kernel_rfl
end Go.Proofs.YthkpfkjbflcpnaaDoor
