import Derived.Test.YthkpfkjbflcpnaaDoorAbCtx
import Derived.Test.YthkpfkjbflcpnaaDoorProg
import Derived.KernelRfl
set_option linter.unusedVariables false
namespace Go.Proofs.YthkpfkjbflcpnaaDoor
open Go Go.Ab
def gam : List (TypeId × Ty) := [(3, (.int .i64)), (4, .bool), (5, (.int .u8)), (9, .str), (22, (.int .i64)), (24, (.slice .str)), (31, (.slice (.pair .str (.pair .bool (.pair (.int .i64) (.slice (.int .u8))))))), (32, (.slice (.int .u8))), (34, (.pair .str (.pair .bool (.pair (.int .i64) (.slice (.int .u8)))))), (45, (.slice (.pair (.int .u8) .str))), (49, (.pair (.int .u8) .str)), (62, (.map .str .bool))]
noncomputable def env : Env := mkEnv Tryd.prog gam
theorem tyOK3 : TyOK Tryd.prog 3 (.int .i64) := ⟨by kernel_rfl, by kernel_rfl⟩
theorem tyOK4 : TyOK Tryd.prog 4 .bool := ⟨by kernel_rfl, by kernel_rfl⟩
theorem tyOK5 : TyOK Tryd.prog 5 (.int .u8) := ⟨by kernel_rfl, by kernel_rfl⟩
theorem tyOK9 : TyOK Tryd.prog 9 .str := ⟨by kernel_rfl, by kernel_rfl⟩
theorem tyOK22 : TyOK Tryd.prog 22 (.int .i64) := ⟨by kernel_rfl, by kernel_rfl⟩
theorem tyOK24 : TyOK Tryd.prog 24 (.slice .str) := ⟨by kernel_rfl, by kernel_rfl⟩
theorem tyOK31 : TyOK Tryd.prog 31 (.slice (.pair .str (.pair .bool (.pair (.int .i64) (.slice (.int .u8)))))) := ⟨by kernel_rfl, by kernel_rfl⟩
theorem tyOK32 : TyOK Tryd.prog 32 (.slice (.int .u8)) := ⟨by kernel_rfl, by kernel_rfl⟩
theorem tyOK34 : TyOK Tryd.prog 34 (.pair .str (.pair .bool (.pair (.int .i64) (.slice (.int .u8))))) := ⟨by kernel_rfl, by kernel_rfl⟩
theorem tyOK45 : TyOK Tryd.prog 45 (.slice (.pair (.int .u8) .str)) := ⟨by kernel_rfl, by kernel_rfl⟩
theorem tyOK49 : TyOK Tryd.prog 49 (.pair (.int .u8) .str) := ⟨by kernel_rfl, by kernel_rfl⟩
theorem tyOK62 : TyOK Tryd.prog 62 (.map .str .bool) := ⟨by kernel_rfl, by kernel_rfl⟩
theorem env_ok : EnvOK env := mkEnv_ok ⟨tyOK3, tyOK4, tyOK5, tyOK9, tyOK22, tyOK24, tyOK31, tyOK32, tyOK34, tyOK45, tyOK49, tyOK62, trivial⟩
theorem mix : Tryd.prog.follows .mixedOrders = true := by kernel_rfl
end Go.Proofs.YthkpfkjbflcpnaaDoor
