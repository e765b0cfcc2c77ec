import Derived.Test.YteekijpcdcpjkaaDoorAbCtx
import Derived.Test.YteekijpcdcpjkaaDoorProg
import Derived.KernelRfl
set_option linter.unusedVariables false
namespace Go.Proofs.YteekijpcdcpjkaaDoor
open Go Go.Ab
def gam : List (TypeId × Ty) := [(3, (.int .i64)), (4, .bool), (5, (.int .u8)), (9, .str), (23, (.slice (.pair .str (.slice (.int .u8))))), (25, (.slice (.int .u8))), (26, (.int .i64)), (40, (.pair .str (.slice (.int .u8)))), (66, (.map .str .bool)), (75, (.int .u64)), (81, (.slice .str)), (89, (.int .u64))]
noncomputable def env : Env := mkEnv Tryd.prog gam
theorem tyOK3 : TyOK Tryd.prog 3 (.int .i64) := ⟨by kernel_rfl, by kernel_rfl⟩
theorem tyOK4 : TyOK Tryd.prog 4 .bool := ⟨by kernel_rfl, by kernel_rfl⟩
theorem tyOK5 : TyOK Tryd.prog 5 (.int .u8) := ⟨by kernel_rfl, by kernel_rfl⟩
theorem tyOK9 : TyOK Tryd.prog 9 .str := ⟨by kernel_rfl, by kernel_rfl⟩
theorem tyOK23 : TyOK Tryd.prog 23 (.slice (.pair .str (.slice (.int .u8)))) := ⟨by kernel_rfl, by kernel_rfl⟩
theorem tyOK25 : TyOK Tryd.prog 25 (.slice (.int .u8)) := ⟨by kernel_rfl, by kernel_rfl⟩
theorem tyOK26 : TyOK Tryd.prog 26 (.int .i64) := ⟨by kernel_rfl, by kernel_rfl⟩
theorem tyOK40 : TyOK Tryd.prog 40 (.pair .str (.slice (.int .u8))) := ⟨by kernel_rfl, by kernel_rfl⟩
theorem tyOK66 : TyOK Tryd.prog 66 (.map .str .bool) := ⟨by kernel_rfl, by kernel_rfl⟩
theorem tyOK75 : TyOK Tryd.prog 75 (.int .u64) := ⟨by kernel_rfl, by kernel_rfl⟩
theorem tyOK81 : TyOK Tryd.prog 81 (.slice .str) := ⟨by kernel_rfl, by kernel_rfl⟩
theorem tyOK89 : TyOK Tryd.prog 89 (.int .u64) := ⟨by kernel_rfl, by kernel_rfl⟩
theorem env_ok : EnvOK env := mkEnv_ok ⟨tyOK3, tyOK4, tyOK5, tyOK9, tyOK23, tyOK25, tyOK26, tyOK40, tyOK66, tyOK75, tyOK81, tyOK89, trivial⟩
theorem mix : Tryd.prog.follows .mixedOrders = true := by kernel_rfl
end Go.Proofs.YteekijpcdcpjkaaDoor
