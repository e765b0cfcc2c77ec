import Derived.Test.YtnklmlnkiepdiaaGreatDoorAbAtoi
import Derived.Test.YtnklmlnkiepdiaaGreatDoorAbCtx
import Derived.Test.YtnklmlnkiepdiaaGreatDoorProg
import Derived.KernelRfl
set_option linter.unusedVariables false
namespace Go.Proofs.YtnklmlnkiepdiaaGreatDoor
open Go Go.Ab
noncomputable instance tabs : Tabs where
  p := fun w => (Go.Lib.TabIs Tryz.prog w "internal/strconv.uint64pow10" .u64 Go.Lib.pow10Tab) ∧ (∃ m, w.cell? ⟨0, 0, none⟩ = some (.int .i64 m)) ∧ (ErrCell w 1) ∧ (ErrCell w 2)
  lo := 6
  mono := fun h q => ⟨tabIs_mono (g := 5) (by kernel_rfl) (by decide) h q.1, (match q.2.1 with | ⟨m, hm⟩ => ⟨m, cell_mono (g := 0) (by decide) h hm⟩), (match q.2.2.1 with | ⟨ev, h1, h2⟩ => ⟨ev, cell_mono (g := 1) (by decide) h h1, h2⟩), (match q.2.2.2 with | ⟨ev, h1, h2⟩ => ⟨ev, cell_mono (g := 2) (by decide) h h1, h2⟩)⟩
def gam : List (TypeId × Ty) := [(3, (.int .i64)), (4, .bool), (5, (.int .u8)), (9, .str), (22, (.slice (.pair .str (.pair (.int .i64) (.pair .str (.pair .str (.pair .bool (.pair .str .str)))))))), (23, (.int .i64)), (32, (.pair .str (.pair (.int .i64) (.pair .str (.pair .str (.pair .bool (.pair .str .str))))))), (49, (.slice (.int .u8))), (76, (.map .str .bool)), (77, (.slice .str)), (86, (.pair .str (.int .i64)))]
noncomputable def env : Env := mkEnv Tryz.prog gam
theorem tyOK3 : TyOK Tryz.prog 3 (.int .i64) := ⟨by kernel_rfl, by kernel_rfl, rfl⟩
theorem tyOK4 : TyOK Tryz.prog 4 .bool := ⟨by kernel_rfl, by kernel_rfl, rfl⟩
theorem tyOK5 : TyOK Tryz.prog 5 (.int .u8) := ⟨by kernel_rfl, by kernel_rfl, rfl⟩
theorem tyOK9 : TyOK Tryz.prog 9 .str := ⟨by kernel_rfl, by kernel_rfl, rfl⟩
theorem tyOK22 : TyOK Tryz.prog 22 (.slice (.pair .str (.pair (.int .i64) (.pair .str (.pair .str (.pair .bool (.pair .str .str))))))) := ⟨by kernel_rfl, by kernel_rfl, rfl⟩
theorem tyOK23 : TyOK Tryz.prog 23 (.int .i64) := ⟨by kernel_rfl, by kernel_rfl, rfl⟩
theorem tyOK32 : TyOK Tryz.prog 32 (.pair .str (.pair (.int .i64) (.pair .str (.pair .str (.pair .bool (.pair .str .str)))))) := ⟨by kernel_rfl, by kernel_rfl, rfl⟩
theorem tyOK49 : TyOK Tryz.prog 49 (.slice (.int .u8)) := ⟨by kernel_rfl, by kernel_rfl, rfl⟩
theorem tyOK76 : TyOK Tryz.prog 76 (.map .str .bool) := ⟨by kernel_rfl, by kernel_rfl, rfl⟩
theorem tyOK77 : TyOK Tryz.prog 77 (.slice .str) := ⟨by kernel_rfl, by kernel_rfl, rfl⟩
theorem tyOK86 : TyOK Tryz.prog 86 (.pair .str (.int .i64)) := ⟨by kernel_rfl, by kernel_rfl, rfl⟩
theorem env_ok : EnvOK env := mkEnv_ok ⟨tyOK3, tyOK4, tyOK5, tyOK9, tyOK22, tyOK23, tyOK32, tyOK49, tyOK76, tyOK77, tyOK86, trivial⟩
theorem mix : Tryz.prog.follows .mixedOrders = true := by kernel_rfl
end Go.Proofs.YtnklmlnkiepdiaaGreatDoor
