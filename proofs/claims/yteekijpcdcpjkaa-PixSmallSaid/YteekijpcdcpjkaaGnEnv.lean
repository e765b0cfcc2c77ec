import Derived.Test.YteekijpcdcpjkaaAbCtx
import Derived.Test.YteekijpcdcpjkaaProg
import Derived.KernelRfl
set_option linter.unusedVariables false
namespace Go.Proofs.Yteekijpcdcpjkaa
open Go Go.Ab
def gam : List (TypeId × Ty) := [(3, (.int .i64)), (4, .bool), (5, (.int .u8)), (22, (.slice (.int .u8))), (24, (.pair (.int .i64) (.pair (.int .i64) (.slice (.int .u8))))), (25, (.int .i64)), (36, (.slice (.int .i64))), (63, (.pair (.slice (.int .i64)) .unit)), (68, (.int .u64)), (77, (.int .u64))]
noncomputable def env : Env := mkEnv Try.prog gam
theorem tyOK3 : TyOK Try.prog 3 (.int .i64) := ⟨by kernel_rfl, by kernel_rfl⟩
theorem tyOK4 : TyOK Try.prog 4 .bool := ⟨by kernel_rfl, by kernel_rfl⟩
theorem tyOK5 : TyOK Try.prog 5 (.int .u8) := ⟨by kernel_rfl, by kernel_rfl⟩
theorem tyOK22 : TyOK Try.prog 22 (.slice (.int .u8)) := ⟨by kernel_rfl, by kernel_rfl⟩
theorem tyOK24 : TyOK Try.prog 24 (.pair (.int .i64) (.pair (.int .i64) (.slice (.int .u8)))) := ⟨by kernel_rfl, by kernel_rfl⟩
theorem tyOK25 : TyOK Try.prog 25 (.int .i64) := ⟨by kernel_rfl, by kernel_rfl⟩
theorem tyOK36 : TyOK Try.prog 36 (.slice (.int .i64)) := ⟨by kernel_rfl, by kernel_rfl⟩
theorem tyOK63 : TyOK Try.prog 63 (.pair (.slice (.int .i64)) .unit) := ⟨by kernel_rfl, by kernel_rfl⟩
theorem tyOK68 : TyOK Try.prog 68 (.int .u64) := ⟨by kernel_rfl, by kernel_rfl⟩
theorem tyOK77 : TyOK Try.prog 77 (.int .u64) := ⟨by kernel_rfl, by kernel_rfl⟩
theorem env_ok : EnvOK env := mkEnv_ok ⟨tyOK3, tyOK4, tyOK5, tyOK22, tyOK24, tyOK25, tyOK36, tyOK63, tyOK68, tyOK77, trivial⟩
theorem mix : Try.prog.follows .mixedOrders = true := by kernel_rfl
end Go.Proofs.Yteekijpcdcpjkaa
