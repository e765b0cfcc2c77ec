import Derived.Test.YtnklmlnkiepdiaaDoorAbAtoi
import Derived.Test.YtnklmlnkiepdiaaDoorAbCtx
import Derived.Test.YtnklmlnkiepdiaaDoorProg
import Derived.KernelRfl
set_option linter.unusedVariables false
namespace Go.Proofs.YtnklmlnkiepdiaaDoor
open Go Go.Ab
noncomputable instance tabs : Tabs where
  p := fun w => (Go.Lib.TabIs Tryd.prog w "internal/strconv.uint64pow10" .u64 Go.Lib.pow10Tab) ∧ (∃ m, w.cell? ⟨1, 0, none⟩ = some (.int .i64 m)) ∧ (ErrCell w 2) ∧ (ErrCell w 3)
  lo := 4
  mono := fun h q => ⟨tabIs_mono (g := 0) (by kernel_rfl) (by decide) h q.1, (match q.2.1 with | ⟨m, hm⟩ => ⟨m, cell_mono (g := 1) (by decide) h hm⟩), (match q.2.2.1 with | ⟨ev, h1, h2⟩ => ⟨ev, cell_mono (g := 2) (by decide) h h1, h2⟩), (match q.2.2.2 with | ⟨ev, h1, h2⟩ => ⟨ev, cell_mono (g := 3) (by decide) h h1, h2⟩)⟩
def gam : List (TypeId × Ty) := [(3, (.int .i64)), (4, .bool), (5, (.int .u8)), (9, .str), (22, (.slice (.int .i64))), (23, (.slice (.pair .str (.pair (.int .i64) (.pair .str (.pair .str (.pair .bool (.pair .str .str)))))))), (26, (.int .i64)), (34, (.pair .str (.pair (.int .i64) (.pair .str (.pair .str (.pair .bool (.pair .str .str))))))), (55, (.pair (.slice (.int .i64)) .unit)), (57, (.slice .str)), (61, (.slice (.int .u8))), (82, (.pair .str (.int .i64)))]
noncomputable def env : Env := mkEnv Tryd.prog gam
theorem tyOK3 : TyOK Tryd.prog 3 (.int .i64) := ⟨by kernel_rfl, by kernel_rfl, rfl⟩
theorem tyOK4 : TyOK Tryd.prog 4 .bool := ⟨by kernel_rfl, by kernel_rfl, rfl⟩
theorem tyOK5 : TyOK Tryd.prog 5 (.int .u8) := ⟨by kernel_rfl, by kernel_rfl, rfl⟩
theorem tyOK9 : TyOK Tryd.prog 9 .str := ⟨by kernel_rfl, by kernel_rfl, rfl⟩
theorem tyOK22 : TyOK Tryd.prog 22 (.slice (.int .i64)) := ⟨by kernel_rfl, by kernel_rfl, rfl⟩
theorem tyOK23 : TyOK Tryd.prog 23 (.slice (.pair .str (.pair (.int .i64) (.pair .str (.pair .str (.pair .bool (.pair .str .str))))))) := ⟨by kernel_rfl, by kernel_rfl, rfl⟩
theorem tyOK26 : TyOK Tryd.prog 26 (.int .i64) := ⟨by kernel_rfl, by kernel_rfl, rfl⟩
theorem tyOK34 : TyOK Tryd.prog 34 (.pair .str (.pair (.int .i64) (.pair .str (.pair .str (.pair .bool (.pair .str .str)))))) := ⟨by kernel_rfl, by kernel_rfl, rfl⟩
theorem tyOK55 : TyOK Tryd.prog 55 (.pair (.slice (.int .i64)) .unit) := ⟨by kernel_rfl, by kernel_rfl, rfl⟩
theorem tyOK57 : TyOK Tryd.prog 57 (.slice .str) := ⟨by kernel_rfl, by kernel_rfl, rfl⟩
theorem tyOK61 : TyOK Tryd.prog 61 (.slice (.int .u8)) := ⟨by kernel_rfl, by kernel_rfl, rfl⟩
theorem tyOK82 : TyOK Tryd.prog 82 (.pair .str (.int .i64)) := ⟨by kernel_rfl, by kernel_rfl, rfl⟩
theorem env_ok : EnvOK env := mkEnv_ok ⟨tyOK3, tyOK4, tyOK5, tyOK9, tyOK22, tyOK23, tyOK26, tyOK34, tyOK55, tyOK57, tyOK61, tyOK82, trivial⟩
theorem mix : Tryd.prog.follows .mixedOrders = true := by kernel_rfl
end Go.Proofs.YtnklmlnkiepdiaaDoor
