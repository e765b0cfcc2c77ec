import Derived.Test.YteekijpcdcpjkaaDoorPu
import Derived.Test.YteekijpcdcpjkaaDoorGn0
import Derived.Test.YteekijpcdcpjkaaDoorGnBackward
import Derived.Test.YteekijpcdcpjkaaDoorGnShStr
set_option linter.unusedVariables false
set_option maxRecDepth 100000
namespace Go.Proofs.YteekijpcdcpjkaaDoor
open Go Go.Ab
def arch_number_i0_slices_Backward.h : HT := .nil
noncomputable def arch_number_i0_slices_Backward.is (N : Nat) : List (Nat × Nat × InlSum) := []
noncomputable def arch_number_i0_slices_Backward.C (N : Nat) : Ctx := mkCtx env 9 [] (arch_number_i0_slices_Backward.is N) [] []
theorem arch_number_i0_slices_Backward.natIs (N : Nat) : NatIs (arch_number_i0_slices_Backward.is N) := trivial
theorem arch_number_i0_slices_Backward.loops : loopsOf (codeOf Tryd.f52) arch_number_i0_slices_Backward.h = [] := by kernel_rfl
theorem arch_number_i0_slices_Backward.ok (N : Nat) : CtxOK (arch_number_i0_slices_Backward.C N) := mkCtx_ok env_ok trivial trivial (arch_number_i0_slices_Backward.natIs N) trivial trivial trivial
theorem arch_number_i0_slices_Backward.natI (N : Nat) : NatI (inl (arch_number_i0_slices_Backward.C N) Tryd.f52 arch_number_i0_slices_Backward.h) := inl_nat (C := arch_number_i0_slices_Backward.C N) (h := arch_number_i0_slices_Backward.h) (mkCtx_nat (arch_number_i0_slices_Backward.natIs N)) trivial
theorem arch_number_i0_slices_Backward.sound (N : Nat) : SoundIn Tryd.prog 52 (inl (arch_number_i0_slices_Backward.C N) Tryd.f52 arch_number_i0_slices_Backward.h) := soundIn_of (arch_number_i0_slices_Backward.ok N) mix Tryd.func52 (by kernel_rfl) (by kernel_rfl) (loopsOK_list arch_number_i0_slices_Backward.loops trivial)
def arch_number.qT0 : Tmpl := { len := 16, live := [(3, .one (.ptr 0 0))], vars := [(0, [.hole])], nx := 1, ty := (.pair (.int .i64) .unit) }
def arch_number.qK0 : Tmpl := { len := 16, live := [], nx := 0, ty := .unit }
def arch_number.qL0 (N : Nat) : RngSum := { T := arch_number.qT0, keep := arch_number.qK0, te := (.pair (.int .i64) (.int .u8)), parts := [(false, 1), (false, 1)], exits := [], rets := none, get := backGet, run := fun {R} K s c xs v => foldR (arch_number.r0 N s c) (fun v => K .normal (arch_number.qT0.unpack (arch_number.qK0.base c) v)) xs v }
def arch_number.h : HT := (.node .nil (.node .nil (.node (.node .nil (.node (.rng 0 .nil) .nil)) .nil)))
noncomputable def arch_number.is (N : Nat) : List (Nat × Nat × InlSum) := [(52, 7, inl (arch_number_i0_slices_Backward.C N) Tryd.f52 arch_number_i0_slices_Backward.h)]
noncomputable def arch_number.C (N : Nat) : Ctx := mkCtx env 0 [] (arch_number.is N) [] [(0, arch_number.qL0 N)]
theorem arch_number.natIs (N : Nat) : NatIs (arch_number.is N) := ⟨arch_number_i0_slices_Backward.natI N, trivial⟩
theorem arch_number.rstep0 (N : Nat) {R : Type} (K : Ex → St → R) (s : R) (c : arch_number.qK0.ty.den) (x : (arch_number.qL0 N).te.den) (again : arch_number.qT0.ty.den → R) (v : arch_number.qT0.ty.den) :
    roundR (arch_number.C N) (at_ (codeOf Tryd.f34) [true, true, false, true, false, false]) (at_ (codeOf Tryd.f34) [true, true, false, true, false, true]) .nil [8, 9] (arch_number.qL0 N) K s (arch_number.qK0.base c) x again v = arch_number.r0 N s c x again v := by kernel_rfl
theorem arch_number.ris0 (N : Nat) : RngIs (arch_number.C N) 0 (at_ (codeOf Tryd.f34) [true, true, false, true, false, false]) (at_ (codeOf Tryd.f34) [true, true, false, true, false, true]) .nil [8, 9] := rngIs_of (arch_number.qL0 N) rfl (fun {R} K s c => arch_number.r0 N s c) (fun _ _ _ _ _ => rfl) (fun K s c x again v => arch_number.rstep0 N K s c x again v)
theorem arch_number.natr0 (N : Nat) : ∀ L, (arch_number.C N).Γ 0 = some L → NatR L := nat_of_rng (arch_number.ris0 N) (mkCtx_nat (arch_number.natIs N)) trivial trivial
theorem arch_number.loops : loopsOf (codeOf Tryd.f34) arch_number.h = [.rng 0 [8, 9] (at_ (codeOf Tryd.f34) [true, true, false, true, false, false]) (at_ (codeOf Tryd.f34) [true, true, false, true, false, true]) .nil] := by kernel_rfl
theorem arch_number.ok (N : Nat) : CtxOK (arch_number.C N) := mkCtx_ok env_ok trivial ⟨arch_number_i0_slices_Backward.sound N, trivial⟩ (arch_number.natIs N) trivial ⟨natR_of (id := 0) rfl (arch_number.natr0 N), trivial⟩ trivial
def arch_number.T (N : Nat) : TFun := { arg := (.slice (.int .u8)), res := (.int .i64), args := [(false, 1)], parts := [(false, 1)], own := [], f := fun a => arch_number N a }
theorem arch_number.eq (N : Nat) (a : (arch_number.T N).arg.den) : denFun (arch_number.C N) Tryd.f34 arch_number.h (arch_number.T N) a = (arch_number.T N).f a := by kernel_rfl
theorem arch_number.sound (N : Nat) : Sound Tryd.prog 34 (arch_number.T N) := sound_of (arch_number.ok N) mix Tryd.func34 (by kernel_rfl) (by kernel_rfl) (loopsOK_list arch_number.loops ⟨(arch_number.ris0 N).ok rfl backward_ok rfl (by kernel_rfl) (by kernel_rfl), trivial⟩) (arch_number.eq N)
def arch_Places.T0 : Tmpl := { len := 84, live := [(8, .one (.own 0)), (66, .one .hole)], nx := 1, ty := (.pair (.slice (.int .i64)) (.pair (.int .i64) .unit)) }
def arch_Places.K0 : Tmpl := { len := 84, live := [(6, .one .hole), (7, .one .hole), (65, .one .hole)], nx := 0, ty := (.pair (.int .i64) (.pair (.slice (.int .u8)) (.pair (.int .i64) .unit))) }
def arch_Places.X0_0 : Tmpl := { len := 84, live := [(8, .one (.own 0))], nx := 1, ty := (.pair (.slice (.int .i64)) .unit) }
def arch_Places.L0 (N : Nat) : LoopSum := { T := arch_Places.T0, keep := arch_Places.K0, exits := [(0, arch_Places.X0_0)], rets := none, run := fun {R} K s c v => iter (arch_Places.s0 N s (fun x => K (.exit 0) (arch_Places.X0_0.unpack (arch_Places.K0.base c) x)) c) s N v }
def arch_Places.h : HT := (.node .nil (.node .nil (.node .nil (.node .nil (.node .nil (.node (.node (.test 34 []) .nil) (.node .nil (.node (.node (.test 55 []) .nil) (.node (.node (.draw [0, 1, 0, 4, 15, 31]) .nil) (.node .nil (.node (.node .nil (.node (.loop 0 .nil) .nil)) .nil)))))))))))
noncomputable def arch_Places.is (N : Nat) : List (Nat × Nat × InlSum) := []
noncomputable def arch_Places.C (N : Nat) : Ctx := mkCtx env 0 [(33, sum_Crc.T N), (34, arch_number.T N)] (arch_Places.is N) [(0, arch_Places.L0 N)] []
theorem arch_Places.natIs (N : Nat) : NatIs (arch_Places.is N) := trivial
theorem arch_Places.step0 (N : Nat) {R : Type} (K : Ex → St → R) (s : R) (c : arch_Places.K0.ty.den) (again : arch_Places.T0.ty.den → R) (v : arch_Places.T0.ty.den) :
    roundC (arch_Places.C N) (at_ (codeOf Tryd.f10) [true, true, true, true, true, true, true, true, true, true, false, true, false, false]) .nil arch_Places.T0 (arch_Places.L0 N).exits (arch_Places.L0 N).rets K s (arch_Places.K0.base c) again v = arch_Places.s0 N s (fun x => K (.exit 0) (arch_Places.X0_0.unpack (arch_Places.K0.base c) x)) c again v := by kernel_rfl
theorem arch_Places.is0 (N : Nat) : LoopIs (arch_Places.C N) 0 (at_ (codeOf Tryd.f10) [true, true, true, true, true, true, true, true, true, true, false, true, false, false]) .nil N := loopIs_of (arch_Places.L0 N) rfl (fun {R} K s c => arch_Places.s0 N s (fun x => K (.exit 0) (arch_Places.X0_0.unpack (arch_Places.K0.base c) x)) c) (fun _ _ _ _ => rfl) (fun K s c again v => arch_Places.step0 N K s c again v)
theorem arch_Places.nat0 (N : Nat) : ∀ L, (arch_Places.C N).Λ 0 = some L → NatL L := nat_of_is (arch_Places.is0 N) (mkCtx_nat (arch_Places.natIs N)) trivial
theorem arch_Places.loops : loopsOf (codeOf Tryd.f10) arch_Places.h = [.loop 0 (at_ (codeOf Tryd.f10) [true, true, true, true, true, true, true, true, true, true, false, true, false, false]) .nil] := by kernel_rfl
theorem arch_Places.ok (N : Nat) : CtxOK (arch_Places.C N) := mkCtx_ok env_ok ⟨sum_Crc.sound N, arch_number.sound N, trivial⟩ trivial (arch_Places.natIs N) ⟨natL_of (id := 0) rfl (arch_Places.nat0 N), trivial⟩ trivial trivial
def arch_Places.T (N : Nat) : TFun := { arg := (.slice (.int .u8)), res := (.pair (.slice (.int .i64)) (.pair (.int .i64) (.int .i64))), args := [(false, 1)], parts := [(false, 1), (false, 1), (false, 1)], own := [0], f := fun a => arch_Places N a }
theorem arch_Places.eq (N : Nat) (a : (arch_Places.T N).arg.den) : denFun (arch_Places.C N) Tryd.f10 arch_Places.h (arch_Places.T N) a = (arch_Places.T N).f a := by kernel_rfl
theorem arch_Places.sound (N : Nat) : Sound Tryd.prog 10 (arch_Places.T N) := sound_of (arch_Places.ok N) mix Tryd.func10 (by kernel_rfl) (by kernel_rfl) (loopsOK_list arch_Places.loops ⟨(arch_Places.is0 N).ok, trivial⟩) (arch_Places.eq N)
def slices_Clone_byte.h : HT := .nil
noncomputable def slices_Clone_byte.is (N : Nat) : List (Nat × Nat × InlSum) := []
noncomputable def slices_Clone_byte.C (N : Nat) : Ctx := mkCtx env 0 [] (slices_Clone_byte.is N) [] []
theorem slices_Clone_byte.natIs (N : Nat) : NatIs (slices_Clone_byte.is N) := trivial
theorem slices_Clone_byte.loops : loopsOf (codeOf Tryd.f48) slices_Clone_byte.h = [] := by kernel_rfl
theorem slices_Clone_byte.ok (N : Nat) : CtxOK (slices_Clone_byte.C N) := mkCtx_ok env_ok trivial trivial (slices_Clone_byte.natIs N) trivial trivial trivial
def slices_Clone_byte.T (N : Nat) : TFun := { arg := (.slice (.int .u8)), res := (.slice (.int .u8)), args := [(false, 1)], parts := [(false, 1)], own := [0], f := fun a => slices_Clone_byte N a }
theorem slices_Clone_byte.eqF (N : Nat) (a : List (Ty.den (.int .u8))) : denArgs (slices_Clone_byte.C N) Tryd.f48 slices_Clone_byte.h ⟨.slice (.int .u8), (.slice (.int .u8)), [(false, 1)], [(false, 1)], [0], fun a => slices_Clone_byte N a⟩ [.one (.nq false (.int .u8) a)] = slices_Clone_byte N a := by kernel_rfl
theorem slices_Clone_byte.eqN (N : Nat) : denArgs (slices_Clone_byte.C N) Tryd.f48 slices_Clone_byte.h ⟨.slice (.int .u8), (.slice (.int .u8)), [(false, 1)], [(false, 1)], [0], fun a => slices_Clone_byte N a⟩ [.one (.nq true (.int .u8) [])] = slices_Clone_byte N [] := by kernel_rfl
theorem slices_Clone_byte.sound (N : Nat) : Sound Tryd.prog 48 (slices_Clone_byte.T N) := soundQ_of (e := (.int .u8)) (res := (.slice (.int .u8))) (parts := [(false, 1)]) (own := [0]) (f := fun a => slices_Clone_byte N a) (slices_Clone_byte.ok N) mix Tryd.func48 (by kernel_rfl) (by kernel_rfl) (loopsOK_list slices_Clone_byte.loops trivial) (slices_Clone_byte.eqF N) (slices_Clone_byte.eqN N)
def bits_Mul64.h : HT := .nil
noncomputable def bits_Mul64.is (N : Nat) : List (Nat × Nat × InlSum) := []
noncomputable def bits_Mul64.C (N : Nat) : Ctx := mkCtx env 0 [] (bits_Mul64.is N) [] []
theorem bits_Mul64.natIs (N : Nat) : NatIs (bits_Mul64.is N) := trivial
theorem bits_Mul64.loops : loopsOf (codeOf Tryd.f64) bits_Mul64.h = [] := by kernel_rfl
theorem bits_Mul64.ok (N : Nat) : CtxOK (bits_Mul64.C N) := mkCtx_ok env_ok trivial trivial (bits_Mul64.natIs N) trivial trivial trivial
def bits_Mul64.T (N : Nat) : TFun := { arg := (.pair (.int .u64) (.int .u64)), res := (.pair (.int .u64) (.int .u64)), args := [(false, 1), (false, 1)], parts := [(false, 1), (false, 1)], own := [], f := fun a => bits_Mul64 N a.1 a.2 }
theorem bits_Mul64.eq (N : Nat) (a : (bits_Mul64.T N).arg.den) : denFun (bits_Mul64.C N) Tryd.f64 bits_Mul64.h (bits_Mul64.T N) a = (bits_Mul64.T N).f a := by kernel_rfl
theorem bits_Mul64.sound (N : Nat) : Sound Tryd.prog 64 (bits_Mul64.T N) := sound_of (bits_Mul64.ok N) mix Tryd.func64 (by kernel_rfl) (by kernel_rfl) (loopsOK_list bits_Mul64.loops trivial) (bits_Mul64.eq N)
def bits_Mul.h : HT := .nil
noncomputable def bits_Mul.is (N : Nat) : List (Nat × Nat × InlSum) := []
noncomputable def bits_Mul.C (N : Nat) : Ctx := mkCtx env 0 [(64, bits_Mul64.T N)] (bits_Mul.is N) [] []
theorem bits_Mul.natIs (N : Nat) : NatIs (bits_Mul.is N) := trivial
theorem bits_Mul.loops : loopsOf (codeOf Tryd.f53) bits_Mul.h = [] := by kernel_rfl
theorem bits_Mul.ok (N : Nat) : CtxOK (bits_Mul.C N) := mkCtx_ok env_ok ⟨bits_Mul64.sound N, trivial⟩ trivial (bits_Mul.natIs N) trivial trivial trivial
def bits_Mul.T (N : Nat) : TFun := { arg := (.pair (.int .u64) (.int .u64)), res := (.pair (.int .u64) (.int .u64)), args := [(false, 1), (false, 1)], parts := [(false, 1), (false, 1)], own := [], f := fun a => bits_Mul N a.1 a.2 }
theorem bits_Mul.eq (N : Nat) (a : (bits_Mul.T N).arg.den) : denFun (bits_Mul.C N) Tryd.f53 bits_Mul.h (bits_Mul.T N) a = (bits_Mul.T N).f a := by kernel_rfl
theorem bits_Mul.sound (N : Nat) : Sound Tryd.prog 53 (bits_Mul.T N) := sound_of (bits_Mul.ok N) mix Tryd.func53 (by kernel_rfl) (by kernel_rfl) (loopsOK_list bits_Mul.loops trivial) (bits_Mul.eq N)
def slices_Repeat_byte.T0 : Tmpl := { len := 48, live := [(7, .one (.own 0)), (8, .one .hole)], nx := 1, ty := (.pair (.slice (.int .u8)) (.pair (.int .i64) .unit)) }
def slices_Repeat_byte.K0 : Tmpl := { len := 48, live := [], nx := 0, ty := .unit }
def slices_Repeat_byte.X0_0 : Tmpl := { len := 48, live := [(7, .one (.own 0))], nx := 1, ty := (.pair (.slice (.int .u8)) .unit) }
def slices_Repeat_byte.L0 (N : Nat) : LoopSum := { T := slices_Repeat_byte.T0, keep := slices_Repeat_byte.K0, exits := [(0, slices_Repeat_byte.X0_0)], rets := none, run := fun {R} K s c v => iter (slices_Repeat_byte.s0 N s (fun x => K (.exit 0) (slices_Repeat_byte.X0_0.unpack (slices_Repeat_byte.K0.base c) x)) c) s N v }
def slices_Repeat_byte.h : HT := (.node .nil (.node .nil (.node .nil (.node (.node (.test 26 []) .nil) (.node .nil (.node .nil (.node (.node (.loop 0 (.node .nil (.node (.pair [0, 0, 0, 6, 0, 0, 48, 126, 255, 511]) .nil))) .nil) .nil)))))))
noncomputable def slices_Repeat_byte.is (N : Nat) : List (Nat × Nat × InlSum) := []
noncomputable def slices_Repeat_byte.C (N : Nat) : Ctx := mkCtx env 0 [(53, bits_Mul.T N)] (slices_Repeat_byte.is N) [(0, slices_Repeat_byte.L0 N)] []
theorem slices_Repeat_byte.natIs (N : Nat) : NatIs (slices_Repeat_byte.is N) := trivial
theorem slices_Repeat_byte.step0 (N : Nat) {R : Type} (K : Ex → St → R) (s : R) (c : slices_Repeat_byte.K0.ty.den) (again : slices_Repeat_byte.T0.ty.den → R) (v : slices_Repeat_byte.T0.ty.den) :
    roundC (slices_Repeat_byte.C N) (at_ (codeOf Tryd.f38) [true, true, true, true, true, true, false, false, false]) (.node .nil (.node (.pair [0, 0, 0, 6, 0, 0, 48, 126, 255, 511]) .nil)) slices_Repeat_byte.T0 (slices_Repeat_byte.L0 N).exits (slices_Repeat_byte.L0 N).rets K s (slices_Repeat_byte.K0.base c) again v = slices_Repeat_byte.s0 N s (fun x => K (.exit 0) (slices_Repeat_byte.X0_0.unpack (slices_Repeat_byte.K0.base c) x)) c again v := by kernel_rfl
theorem slices_Repeat_byte.is0 (N : Nat) : LoopIs (slices_Repeat_byte.C N) 0 (at_ (codeOf Tryd.f38) [true, true, true, true, true, true, false, false, false]) (.node .nil (.node (.pair [0, 0, 0, 6, 0, 0, 48, 126, 255, 511]) .nil)) N := loopIs_of (slices_Repeat_byte.L0 N) rfl (fun {R} K s c => slices_Repeat_byte.s0 N s (fun x => K (.exit 0) (slices_Repeat_byte.X0_0.unpack (slices_Repeat_byte.K0.base c) x)) c) (fun _ _ _ _ => rfl) (fun K s c again v => slices_Repeat_byte.step0 N K s c again v)
theorem slices_Repeat_byte.nat0 (N : Nat) : ∀ L, (slices_Repeat_byte.C N).Λ 0 = some L → NatL L := nat_of_is (slices_Repeat_byte.is0 N) (mkCtx_nat (slices_Repeat_byte.natIs N)) ⟨trivial, ⟨trivial, trivial⟩⟩
theorem slices_Repeat_byte.loops : loopsOf (codeOf Tryd.f38) slices_Repeat_byte.h = [.loop 0 (at_ (codeOf Tryd.f38) [true, true, true, true, true, true, false, false, false]) (.node .nil (.node (.pair [0, 0, 0, 6, 0, 0, 48, 126, 255, 511]) .nil))] := by kernel_rfl
theorem slices_Repeat_byte.ok (N : Nat) : CtxOK (slices_Repeat_byte.C N) := mkCtx_ok env_ok ⟨bits_Mul.sound N, trivial⟩ trivial (slices_Repeat_byte.natIs N) ⟨natL_of (id := 0) rfl (slices_Repeat_byte.nat0 N), trivial⟩ trivial trivial
def slices_Repeat_byte.T (N : Nat) : TFun := { arg := (.pair (.slice (.int .u8)) (.int .i64)), res := (.slice (.int .u8)), args := [(false, 1), (false, 1)], parts := [(false, 1)], own := [0], f := fun a => slices_Repeat_byte N a.1 a.2 }
theorem slices_Repeat_byte.eq (N : Nat) (a : (slices_Repeat_byte.T N).arg.den) : denFun (slices_Repeat_byte.C N) Tryd.f38 slices_Repeat_byte.h (slices_Repeat_byte.T N) a = (slices_Repeat_byte.T N).f a := by kernel_rfl
theorem slices_Repeat_byte.sound (N : Nat) : Sound Tryd.prog 38 (slices_Repeat_byte.T N) := sound_of (slices_Repeat_byte.ok N) mix Tryd.func38 (by kernel_rfl) (by kernel_rfl) (loopsOK_list slices_Repeat_byte.loops ⟨(slices_Repeat_byte.is0 N).ok, trivial⟩) (slices_Repeat_byte.eq N)
def arch_Unpack.T0 : Tmpl := { len := 48, live := [(6, .one (.own 0)), (7, .one .hole)], nx := 1, ty := (.pair (.slice (.int .u8)) (.pair (.int .i64) .unit)) }
def arch_Unpack.K0 : Tmpl := { len := 48, live := [(0, .one .hole), (1, .one .hole)], nx := 0, ty := (.pair (.slice (.int .u8)) (.pair (.int .i64) .unit)) }
def arch_Unpack.X0_0 : Tmpl := { len := 48, live := [(6, .one (.own 0))], nx := 1, ty := (.pair (.slice (.int .u8)) .unit) }
def arch_Unpack.R0 : Tmpl := { len := 48, live := [(4, .one .nil), (5, .one .hole)], nx := 0, ty := (.pair (.int .i64) .unit) }
def arch_Unpack.L0 (N : Nat) : LoopSum := { T := arch_Unpack.T0, keep := arch_Unpack.K0, exits := [(0, arch_Unpack.X0_0)], rets := some arch_Unpack.R0, run := fun {R} K s c v => iter (arch_Unpack.s0 N s (fun x => K (.exit 0) (arch_Unpack.X0_0.unpack (arch_Unpack.K0.base c) x)) (fun x => K .ret (arch_Unpack.R0.unpack (arch_Unpack.K0.base c) x)) c) s N v }
def arch_Unpack.h : HT := (.node .nil (.node .nil (.node .nil (.node (.node .nil (.node (.loop 0 (.node .nil (.node (.node (.node .nil (.node .nil (.pair [0, 0, 0, 4, 14, 30, 62, 0, 0, 384, 896, 1920, 4094, 8191, 16383]))) .nil) .nil))) .nil)) .nil))))
noncomputable def arch_Unpack.is (N : Nat) : List (Nat × Nat × InlSum) := []
noncomputable def arch_Unpack.C (N : Nat) : Ctx := mkCtx env 0 [(38, slices_Repeat_byte.T N)] (arch_Unpack.is N) [(0, arch_Unpack.L0 N)] []
theorem arch_Unpack.natIs (N : Nat) : NatIs (arch_Unpack.is N) := trivial
theorem arch_Unpack.step0 (N : Nat) {R : Type} (K : Ex → St → R) (s : R) (c : arch_Unpack.K0.ty.den) (again : arch_Unpack.T0.ty.den → R) (v : arch_Unpack.T0.ty.den) :
    roundC (arch_Unpack.C N) (at_ (codeOf Tryd.f17) [true, true, true, false, true, false, false]) (.node .nil (.node (.node (.node .nil (.node .nil (.pair [0, 0, 0, 4, 14, 30, 62, 0, 0, 384, 896, 1920, 4094, 8191, 16383]))) .nil) .nil)) arch_Unpack.T0 (arch_Unpack.L0 N).exits (arch_Unpack.L0 N).rets K s (arch_Unpack.K0.base c) again v = arch_Unpack.s0 N s (fun x => K (.exit 0) (arch_Unpack.X0_0.unpack (arch_Unpack.K0.base c) x)) (fun x => K .ret (arch_Unpack.R0.unpack (arch_Unpack.K0.base c) x)) c again v := by kernel_rfl
theorem arch_Unpack.is0 (N : Nat) : LoopIs (arch_Unpack.C N) 0 (at_ (codeOf Tryd.f17) [true, true, true, false, true, false, false]) (.node .nil (.node (.node (.node .nil (.node .nil (.pair [0, 0, 0, 4, 14, 30, 62, 0, 0, 384, 896, 1920, 4094, 8191, 16383]))) .nil) .nil)) N := loopIs_of (arch_Unpack.L0 N) rfl (fun {R} K s c => arch_Unpack.s0 N s (fun x => K (.exit 0) (arch_Unpack.X0_0.unpack (arch_Unpack.K0.base c) x)) (fun x => K .ret (arch_Unpack.R0.unpack (arch_Unpack.K0.base c) x)) c) (fun _ _ _ _ => rfl) (fun K s c again v => arch_Unpack.step0 N K s c again v)
theorem arch_Unpack.nat0 (N : Nat) : ∀ L, (arch_Unpack.C N).Λ 0 = some L → NatL L := nat_of_is (arch_Unpack.is0 N) (mkCtx_nat (arch_Unpack.natIs N)) ⟨trivial, ⟨⟨⟨trivial, ⟨trivial, trivial⟩⟩, trivial⟩, trivial⟩⟩
theorem arch_Unpack.loops : loopsOf (codeOf Tryd.f17) arch_Unpack.h = [.loop 0 (at_ (codeOf Tryd.f17) [true, true, true, false, true, false, false]) (.node .nil (.node (.node (.node .nil (.node .nil (.pair [0, 0, 0, 4, 14, 30, 62, 0, 0, 384, 896, 1920, 4094, 8191, 16383]))) .nil) .nil))] := by kernel_rfl
theorem arch_Unpack.ok (N : Nat) : CtxOK (arch_Unpack.C N) := mkCtx_ok env_ok ⟨slices_Repeat_byte.sound N, trivial⟩ trivial (arch_Unpack.natIs N) ⟨natL_of (id := 0) rfl (arch_Unpack.nat0 N), trivial⟩ trivial trivial
def arch_Unpack.T (N : Nat) : TFun := { arg := (.pair (.slice (.int .u8)) (.int .i64)), res := (.pair (.slice (.int .u8)) (.int .i64)), args := [(false, 1), (false, 1)], parts := [(false, 1), (false, 1)], own := [0], f := fun a => arch_Unpack N a.1 a.2 }
theorem arch_Unpack.eq (N : Nat) (a : (arch_Unpack.T N).arg.den) : denFun (arch_Unpack.C N) Tryd.f17 arch_Unpack.h (arch_Unpack.T N) a = (arch_Unpack.T N).f a := by kernel_rfl
theorem arch_Unpack.sound (N : Nat) : Sound Tryd.prog 17 (arch_Unpack.T N) := sound_of (arch_Unpack.ok N) mix Tryd.func17 (by kernel_rfl) (by kernel_rfl) (loopsOK_list arch_Unpack.loops ⟨(arch_Unpack.is0 N).ok, trivial⟩) (arch_Unpack.eq N)
def arch_one.h : HT := (.node .nil (.node (.node (.test 21 []) .nil) (.node .nil (.node (.node (.test 38 []) .nil) (.node .nil (.node .nil (.node (.draw [0, 0, 2, 0, 8, 31, 63, 0, 0, 256, 0, 1024, 3968, 8191, 0, 0, 32768, 0, 131072, 507904, 1048575, 2097151, 4194303, 8388607]) (.node (.node (.test 101 []) .nil) (.node .nil (.node .nil (.node (.node .nil (.node (.node .nil (.node (.node (.test 139 []) .nil) .nil)) .nil)) .nil)))))))))))
noncomputable def arch_one.is (N : Nat) : List (Nat × Nat × InlSum) := []
noncomputable def arch_one.C (N : Nat) : Ctx := mkCtx env 0 [(17, arch_Unpack.T N), (33, sum_Crc.T N), (34, arch_number.T N), (40, fs_Path.T N), (48, slices_Clone_byte.T N)] (arch_one.is N) [] []
theorem arch_one.natIs (N : Nat) : NatIs (arch_one.is N) := trivial
theorem arch_one.loops : loopsOf (codeOf Tryd.f35) arch_one.h = [] := by kernel_rfl
theorem arch_one.ok (N : Nat) : CtxOK (arch_one.C N) := mkCtx_ok env_ok ⟨arch_Unpack.sound N, sum_Crc.sound N, arch_number.sound N, fs_Path.sound N, slices_Clone_byte.sound N, trivial⟩ trivial (arch_one.natIs N) trivial trivial trivial
def arch_one.T (N : Nat) : TFun := { arg := (.pair (.slice (.int .u8)) (.int .i64)), res := (.pair (.pair .str (.slice (.int .u8))) (.pair (.int .i64) (.int .i64))), args := [(false, 1), (false, 1)], parts := [(true, 2), (false, 1), (false, 1)], own := [1], f := fun a => arch_one N a.1 a.2 }
theorem arch_one.eq (N : Nat) (a : (arch_one.T N).arg.den) : denFun (arch_one.C N) Tryd.f35 arch_one.h (arch_one.T N) a = (arch_one.T N).f a := by kernel_rfl
theorem arch_one.sound (N : Nat) : Sound Tryd.prog 35 (arch_one.T N) := sound_of (arch_one.ok N) mix Tryd.func35 (by kernel_rfl) (by kernel_rfl) (loopsOK_list arch_one.loops trivial) (arch_one.eq N)
def arch_Read.T0 : Tmpl := { len := 59, live := [(7, .one (.own 0)), (8, .one .hole), (23, .one (.own 1)), (25, .one .hole)], nx := 2, ty := (.pair (.slice (.pair .str (.slice (.int .u8)))) (.pair (.int .i64) (.pair (.slice (.int .i64)) (.pair (.int .i64) .unit)))) }
def arch_Read.K0 : Tmpl := { len := 59, live := [(0, .one .hole), (5, .one .hole), (24, .one .hole)], nx := 0, ty := (.pair (.slice (.int .u8)) (.pair (.int .i64) (.pair (.int .i64) .unit))) }
def arch_Read.X0_0 : Tmpl := { len := 59, live := [(7, .one (.own 0)), (8, .one .hole)], nx := 1, ty := (.pair (.slice (.pair .str (.slice (.int .u8)))) (.pair (.int .i64) .unit)) }
def arch_Read.R0 : Tmpl := { len := 59, live := [(2, .one .nil), (3, .one .hole)], nx := 0, ty := (.pair (.int .i64) .unit) }
def arch_Read.L0 (N : Nat) : LoopSum := { T := arch_Read.T0, keep := arch_Read.K0, exits := [(0, arch_Read.X0_0)], rets := some arch_Read.R0, run := fun {R} K s c v => iter (arch_Read.s0 N s (fun x => K (.exit 0) (arch_Read.X0_0.unpack (arch_Read.K0.base c) x)) (fun x => K .ret (arch_Read.R0.unpack (arch_Read.K0.base c) x)) c) s N v }
def arch_Read.h : HT := (.node .nil (.node .nil (.node .nil (.node .nil (.node .nil (.node (.node .nil (.node (.loop 0 .nil) .nil)) (.node (.node (.test 57 []) .nil) .nil)))))))
noncomputable def arch_Read.is (N : Nat) : List (Nat × Nat × InlSum) := []
noncomputable def arch_Read.C (N : Nat) : Ctx := mkCtx env 0 [(10, arch_Places.T N), (22, arch_Check.T N), (35, arch_one.T N)] (arch_Read.is N) [(0, arch_Read.L0 N)] []
theorem arch_Read.natIs (N : Nat) : NatIs (arch_Read.is N) := trivial
theorem arch_Read.step0 (N : Nat) {R : Type} (K : Ex → St → R) (s : R) (c : arch_Read.K0.ty.den) (again : arch_Read.T0.ty.den → R) (v : arch_Read.T0.ty.den) :
    roundC (arch_Read.C N) (at_ (codeOf Tryd.f15) [true, true, true, true, true, false, true, false, false]) .nil arch_Read.T0 (arch_Read.L0 N).exits (arch_Read.L0 N).rets K s (arch_Read.K0.base c) again v = arch_Read.s0 N s (fun x => K (.exit 0) (arch_Read.X0_0.unpack (arch_Read.K0.base c) x)) (fun x => K .ret (arch_Read.R0.unpack (arch_Read.K0.base c) x)) c again v := by kernel_rfl
theorem arch_Read.is0 (N : Nat) : LoopIs (arch_Read.C N) 0 (at_ (codeOf Tryd.f15) [true, true, true, true, true, false, true, false, false]) .nil N := loopIs_of (arch_Read.L0 N) rfl (fun {R} K s c => arch_Read.s0 N s (fun x => K (.exit 0) (arch_Read.X0_0.unpack (arch_Read.K0.base c) x)) (fun x => K .ret (arch_Read.R0.unpack (arch_Read.K0.base c) x)) c) (fun _ _ _ _ => rfl) (fun K s c again v => arch_Read.step0 N K s c again v)
theorem arch_Read.nat0 (N : Nat) : ∀ L, (arch_Read.C N).Λ 0 = some L → NatL L := nat_of_is (arch_Read.is0 N) (mkCtx_nat (arch_Read.natIs N)) trivial
theorem arch_Read.loops : loopsOf (codeOf Tryd.f15) arch_Read.h = [.loop 0 (at_ (codeOf Tryd.f15) [true, true, true, true, true, false, true, false, false]) .nil] := by kernel_rfl
theorem arch_Read.ok (N : Nat) : CtxOK (arch_Read.C N) := mkCtx_ok env_ok ⟨arch_Places.sound N, arch_Check.sound N, arch_one.sound N, trivial⟩ trivial (arch_Read.natIs N) ⟨natL_of (id := 0) rfl (arch_Read.nat0 N), trivial⟩ trivial trivial
def arch_Read.T (N : Nat) : TFun := { arg := (.slice (.int .u8)), res := (.pair (.slice (.pair .str (.slice (.int .u8)))) (.int .i64)), args := [(false, 1)], parts := [(false, 1), (false, 1)], own := [0], f := fun a => arch_Read N a }
theorem arch_Read.eq (N : Nat) (a : (arch_Read.T N).arg.den) : denFun (arch_Read.C N) Tryd.f15 arch_Read.h (arch_Read.T N) a = (arch_Read.T N).f a := by kernel_rfl
theorem arch_Read.sound (N : Nat) : Sound Tryd.prog 15 (arch_Read.T N) := sound_of (arch_Read.ok N) mix Tryd.func15 (by kernel_rfl) (by kernel_rfl) (loopsOK_list arch_Read.loops ⟨(arch_Read.is0 N).ok, trivial⟩) (arch_Read.eq N)
def slices_Equal_byte.T0 : Tmpl := { len := 26, live := [(13, .one .hole)], nx := 0, ty := (.pair (.int .i64) .unit) }
def slices_Equal_byte.K0 : Tmpl := { len := 26, live := [(0, .one .hole), (1, .one .hole), (12, .one .hole)], nx := 0, ty := (.pair (.slice (.int .u8)) (.pair (.slice (.int .u8)) (.pair (.int .i64) .unit))) }
def slices_Equal_byte.X0_0 : Tmpl := { len := 26, live := [], nx := 0, ty := .unit }
def slices_Equal_byte.R0 : Tmpl := { len := 26, live := [(4, .one .hole)], nx := 0, ty := (.pair .bool .unit) }
def slices_Equal_byte.L0 (N : Nat) : LoopSum := { T := slices_Equal_byte.T0, keep := slices_Equal_byte.K0, exits := [(0, slices_Equal_byte.X0_0)], rets := some slices_Equal_byte.R0, run := fun {R} K s c v => iter (slices_Equal_byte.s0 N s (fun x => K (.exit 0) (slices_Equal_byte.X0_0.unpack (slices_Equal_byte.K0.base c) x)) (fun x => K .ret (slices_Equal_byte.R0.unpack (slices_Equal_byte.K0.base c) x)) c) s N v }
def slices_Equal_byte.h : HT := (.node .nil (.node .nil (.node (.node .nil (.node (.loop 0 (.node .nil (.node .nil (.node (.node (.node .nil (.node (.draw [0, 0, 3, 7, 0, 0, 48, 112, 255]) .nil)) .nil) .nil)))) .nil)) .nil)))
noncomputable def slices_Equal_byte.is (N : Nat) : List (Nat × Nat × InlSum) := []
noncomputable def slices_Equal_byte.C (N : Nat) : Ctx := mkCtx env 0 [] (slices_Equal_byte.is N) [(0, slices_Equal_byte.L0 N)] []
theorem slices_Equal_byte.natIs (N : Nat) : NatIs (slices_Equal_byte.is N) := trivial
theorem slices_Equal_byte.step0 (N : Nat) {R : Type} (K : Ex → St → R) (s : R) (c : slices_Equal_byte.K0.ty.den) (again : slices_Equal_byte.T0.ty.den → R) (v : slices_Equal_byte.T0.ty.den) :
    roundC (slices_Equal_byte.C N) (at_ (codeOf Tryd.f19) [true, true, false, true, false, false]) (.node .nil (.node .nil (.node (.node (.node .nil (.node (.draw [0, 0, 3, 7, 0, 0, 48, 112, 255]) .nil)) .nil) .nil))) slices_Equal_byte.T0 (slices_Equal_byte.L0 N).exits (slices_Equal_byte.L0 N).rets K s (slices_Equal_byte.K0.base c) again v = slices_Equal_byte.s0 N s (fun x => K (.exit 0) (slices_Equal_byte.X0_0.unpack (slices_Equal_byte.K0.base c) x)) (fun x => K .ret (slices_Equal_byte.R0.unpack (slices_Equal_byte.K0.base c) x)) c again v := by kernel_rfl
theorem slices_Equal_byte.is0 (N : Nat) : LoopIs (slices_Equal_byte.C N) 0 (at_ (codeOf Tryd.f19) [true, true, false, true, false, false]) (.node .nil (.node .nil (.node (.node (.node .nil (.node (.draw [0, 0, 3, 7, 0, 0, 48, 112, 255]) .nil)) .nil) .nil))) N := loopIs_of (slices_Equal_byte.L0 N) rfl (fun {R} K s c => slices_Equal_byte.s0 N s (fun x => K (.exit 0) (slices_Equal_byte.X0_0.unpack (slices_Equal_byte.K0.base c) x)) (fun x => K .ret (slices_Equal_byte.R0.unpack (slices_Equal_byte.K0.base c) x)) c) (fun _ _ _ _ => rfl) (fun K s c again v => slices_Equal_byte.step0 N K s c again v)
theorem slices_Equal_byte.nat0 (N : Nat) : ∀ L, (slices_Equal_byte.C N).Λ 0 = some L → NatL L := nat_of_is (slices_Equal_byte.is0 N) (mkCtx_nat (slices_Equal_byte.natIs N)) ⟨trivial, ⟨trivial, ⟨⟨⟨trivial, ⟨trivial, trivial⟩⟩, trivial⟩, trivial⟩⟩⟩
theorem slices_Equal_byte.loops : loopsOf (codeOf Tryd.f19) slices_Equal_byte.h = [.loop 0 (at_ (codeOf Tryd.f19) [true, true, false, true, false, false]) (.node .nil (.node .nil (.node (.node (.node .nil (.node (.draw [0, 0, 3, 7, 0, 0, 48, 112, 255]) .nil)) .nil) .nil)))] := by kernel_rfl
theorem slices_Equal_byte.ok (N : Nat) : CtxOK (slices_Equal_byte.C N) := mkCtx_ok env_ok trivial trivial (slices_Equal_byte.natIs N) ⟨natL_of (id := 0) rfl (slices_Equal_byte.nat0 N), trivial⟩ trivial trivial
def slices_Equal_byte.T (N : Nat) : TFun := { arg := (.pair (.slice (.int .u8)) (.slice (.int .u8))), res := .bool, args := [(false, 1), (false, 1)], parts := [(false, 1)], own := [], f := fun a => slices_Equal_byte N a.1 a.2 }
theorem slices_Equal_byte.eq (N : Nat) (a : (slices_Equal_byte.T N).arg.den) : denFun (slices_Equal_byte.C N) Tryd.f19 slices_Equal_byte.h (slices_Equal_byte.T N) a = (slices_Equal_byte.T N).f a := by kernel_rfl
theorem slices_Equal_byte.sound (N : Nat) : Sound Tryd.prog 19 (slices_Equal_byte.T N) := sound_of (slices_Equal_byte.ok N) mix Tryd.func19 (by kernel_rfl) (by kernel_rfl) (loopsOK_list slices_Equal_byte.loops ⟨(slices_Equal_byte.is0 N).ok, trivial⟩) (slices_Equal_byte.eq N)
def wrackkeep2_packs.h : HT := .nil
noncomputable def wrackkeep2_packs.is (N : Nat) : List (Nat × Nat × InlSum) := []
noncomputable def wrackkeep2_packs.C (N : Nat) : Ctx := mkCtx env 0 [(18, arch_Pack.T N), (19, slices_Equal_byte.T N)] (wrackkeep2_packs.is N) [] []
theorem wrackkeep2_packs.natIs (N : Nat) : NatIs (wrackkeep2_packs.is N) := trivial
theorem wrackkeep2_packs.loops : loopsOf (codeOf Tryd.f11) wrackkeep2_packs.h = [] := by kernel_rfl
theorem wrackkeep2_packs.ok (N : Nat) : CtxOK (wrackkeep2_packs.C N) := mkCtx_ok env_ok ⟨arch_Pack.sound N, slices_Equal_byte.sound N, trivial⟩ trivial (wrackkeep2_packs.natIs N) trivial trivial trivial
def wrackkeep2_packs.T (N : Nat) : TFun := { arg := .unit, res := .bool, args := [], parts := [(false, 1)], own := [], f := fun a => wrackkeep2_packs N }
theorem wrackkeep2_packs.eq (N : Nat) (a : (wrackkeep2_packs.T N).arg.den) : denFun (wrackkeep2_packs.C N) Tryd.f11 wrackkeep2_packs.h (wrackkeep2_packs.T N) a = (wrackkeep2_packs.T N).f a := by kernel_rfl
theorem wrackkeep2_packs.sound (N : Nat) : Sound Tryd.prog 11 (wrackkeep2_packs.T N) := sound_of (wrackkeep2_packs.ok N) mix Tryd.func11 (by kernel_rfl) (by kernel_rfl) (loopsOK_list wrackkeep2_packs.loops trivial) (wrackkeep2_packs.eq N)
def wrackkeep2_sameItems_1.h : HT := (.node .nil (.node (.test 4 []) .nil))
noncomputable def wrackkeep2_sameItems_1.is (N : Nat) : List (Nat × Nat × InlSum) := []
noncomputable def wrackkeep2_sameItems_1.C (N : Nat) : Ctx := mkCtx env 0 [(19, slices_Equal_byte.T N)] (wrackkeep2_sameItems_1.is N) [] []
theorem wrackkeep2_sameItems_1.natIs (N : Nat) : NatIs (wrackkeep2_sameItems_1.is N) := trivial
theorem wrackkeep2_sameItems_1.loops : loopsOf (codeOf Tryd.f37) wrackkeep2_sameItems_1.h = [] := by kernel_rfl
theorem wrackkeep2_sameItems_1.ok (N : Nat) : CtxOK (wrackkeep2_sameItems_1.C N) := mkCtx_ok env_ok ⟨slices_Equal_byte.sound N, trivial⟩ trivial (wrackkeep2_sameItems_1.natIs N) trivial trivial trivial
def wrackkeep2_sameItems_1.T (N : Nat) : TFun := { arg := (.pair (.pair .str (.slice (.int .u8))) (.pair .str (.slice (.int .u8)))), res := .bool, args := [(true, 2), (true, 2)], parts := [(false, 1)], own := [], f := fun a => wrackkeep2_sameItems_1 N a.1 a.2 }
theorem wrackkeep2_sameItems_1.eq (N : Nat) (a : (wrackkeep2_sameItems_1.T N).arg.den) : denFun (wrackkeep2_sameItems_1.C N) Tryd.f37 wrackkeep2_sameItems_1.h (wrackkeep2_sameItems_1.T N) a = (wrackkeep2_sameItems_1.T N).f a := by kernel_rfl
theorem wrackkeep2_sameItems_1.sound (N : Nat) : Sound Tryd.prog 37 (wrackkeep2_sameItems_1.T N) := sound_of (wrackkeep2_sameItems_1.ok N) mix Tryd.func37 (by kernel_rfl) (by kernel_rfl) (loopsOK_list wrackkeep2_sameItems_1.loops trivial) (wrackkeep2_sameItems_1.eq N)
def wrackkeep2_sameItems_i0_slices_EqualFunc.T0 : Tmpl := { len := 32, live := [(2, .one (.fn 37 [])), (17, .one .hole)], nx := 8, ty := (.pair (.int .i64) .unit) }
def wrackkeep2_sameItems_i0_slices_EqualFunc.K0 : Tmpl := { len := 32, live := [(1, .one .hole), (15, .one .hole), (16, .one .hole)], nx := 0, ty := (.pair (.slice (.pair .str (.slice (.int .u8)))) (.pair (.slice (.pair .str (.slice (.int .u8)))) (.pair (.int .i64) .unit))) }
def wrackkeep2_sameItems_i0_slices_EqualFunc.X0_0 : Tmpl := { len := 32, live := [], nx := 8, ty := .unit }
def wrackkeep2_sameItems_i0_slices_EqualFunc.R0 : Tmpl := { len := 32, live := [(6, .one .hole)], nx := 8, ty := (.pair .bool .unit) }
def wrackkeep2_sameItems_i0_slices_EqualFunc.L0 (N : Nat) : LoopSum := { T := wrackkeep2_sameItems_i0_slices_EqualFunc.T0, keep := wrackkeep2_sameItems_i0_slices_EqualFunc.K0, exits := [(0, wrackkeep2_sameItems_i0_slices_EqualFunc.X0_0)], rets := some wrackkeep2_sameItems_i0_slices_EqualFunc.R0, run := fun {R} K s c v => iter (wrackkeep2_sameItems_i0_slices_EqualFunc.s0 N s (fun x => K (.exit 0) (wrackkeep2_sameItems_i0_slices_EqualFunc.X0_0.unpack (wrackkeep2_sameItems_i0_slices_EqualFunc.K0.base c) x)) (fun x => K .ret (wrackkeep2_sameItems_i0_slices_EqualFunc.R0.unpack (wrackkeep2_sameItems_i0_slices_EqualFunc.K0.base c) x)) c) s N v }
def wrackkeep2_sameItems_i0_slices_EqualFunc.h : HT := (.node .nil (.node .nil (.node (.node .nil (.node (.loop 0 .nil) .nil)) .nil)))
noncomputable def wrackkeep2_sameItems_i0_slices_EqualFunc.is (N : Nat) : List (Nat × Nat × InlSum) := []
noncomputable def wrackkeep2_sameItems_i0_slices_EqualFunc.C (N : Nat) : Ctx := mkCtx env 8 [(37, wrackkeep2_sameItems_1.T N)] (wrackkeep2_sameItems_i0_slices_EqualFunc.is N) [(0, wrackkeep2_sameItems_i0_slices_EqualFunc.L0 N)] []
theorem wrackkeep2_sameItems_i0_slices_EqualFunc.natIs (N : Nat) : NatIs (wrackkeep2_sameItems_i0_slices_EqualFunc.is N) := trivial
theorem wrackkeep2_sameItems_i0_slices_EqualFunc.step0 (N : Nat) {R : Type} (K : Ex → St → R) (s : R) (c : wrackkeep2_sameItems_i0_slices_EqualFunc.K0.ty.den) (again : wrackkeep2_sameItems_i0_slices_EqualFunc.T0.ty.den → R) (v : wrackkeep2_sameItems_i0_slices_EqualFunc.T0.ty.den) :
    roundC (wrackkeep2_sameItems_i0_slices_EqualFunc.C N) (at_ (codeOf Tryd.f36) [true, true, false, true, false, false]) .nil wrackkeep2_sameItems_i0_slices_EqualFunc.T0 (wrackkeep2_sameItems_i0_slices_EqualFunc.L0 N).exits (wrackkeep2_sameItems_i0_slices_EqualFunc.L0 N).rets K s (wrackkeep2_sameItems_i0_slices_EqualFunc.K0.base c) again v = wrackkeep2_sameItems_i0_slices_EqualFunc.s0 N s (fun x => K (.exit 0) (wrackkeep2_sameItems_i0_slices_EqualFunc.X0_0.unpack (wrackkeep2_sameItems_i0_slices_EqualFunc.K0.base c) x)) (fun x => K .ret (wrackkeep2_sameItems_i0_slices_EqualFunc.R0.unpack (wrackkeep2_sameItems_i0_slices_EqualFunc.K0.base c) x)) c again v := by kernel_rfl
theorem wrackkeep2_sameItems_i0_slices_EqualFunc.is0 (N : Nat) : LoopIs (wrackkeep2_sameItems_i0_slices_EqualFunc.C N) 0 (at_ (codeOf Tryd.f36) [true, true, false, true, false, false]) .nil N := loopIs_of (wrackkeep2_sameItems_i0_slices_EqualFunc.L0 N) rfl (fun {R} K s c => wrackkeep2_sameItems_i0_slices_EqualFunc.s0 N s (fun x => K (.exit 0) (wrackkeep2_sameItems_i0_slices_EqualFunc.X0_0.unpack (wrackkeep2_sameItems_i0_slices_EqualFunc.K0.base c) x)) (fun x => K .ret (wrackkeep2_sameItems_i0_slices_EqualFunc.R0.unpack (wrackkeep2_sameItems_i0_slices_EqualFunc.K0.base c) x)) c) (fun _ _ _ _ => rfl) (fun K s c again v => wrackkeep2_sameItems_i0_slices_EqualFunc.step0 N K s c again v)
theorem wrackkeep2_sameItems_i0_slices_EqualFunc.nat0 (N : Nat) : ∀ L, (wrackkeep2_sameItems_i0_slices_EqualFunc.C N).Λ 0 = some L → NatL L := nat_of_is (wrackkeep2_sameItems_i0_slices_EqualFunc.is0 N) (mkCtx_nat (wrackkeep2_sameItems_i0_slices_EqualFunc.natIs N)) trivial
theorem wrackkeep2_sameItems_i0_slices_EqualFunc.loops : loopsOf (codeOf Tryd.f36) wrackkeep2_sameItems_i0_slices_EqualFunc.h = [.loop 0 (at_ (codeOf Tryd.f36) [true, true, false, true, false, false]) .nil] := by kernel_rfl
theorem wrackkeep2_sameItems_i0_slices_EqualFunc.ok (N : Nat) : CtxOK (wrackkeep2_sameItems_i0_slices_EqualFunc.C N) := mkCtx_ok env_ok ⟨wrackkeep2_sameItems_1.sound N, trivial⟩ trivial (wrackkeep2_sameItems_i0_slices_EqualFunc.natIs N) ⟨natL_of (id := 0) rfl (wrackkeep2_sameItems_i0_slices_EqualFunc.nat0 N), trivial⟩ trivial trivial
theorem wrackkeep2_sameItems_i0_slices_EqualFunc.natI (N : Nat) : NatI (inl (wrackkeep2_sameItems_i0_slices_EqualFunc.C N) Tryd.f36 wrackkeep2_sameItems_i0_slices_EqualFunc.h) := inl_nat (C := wrackkeep2_sameItems_i0_slices_EqualFunc.C N) (h := wrackkeep2_sameItems_i0_slices_EqualFunc.h) (mkCtx_nat (wrackkeep2_sameItems_i0_slices_EqualFunc.natIs N)) ⟨trivial, ⟨trivial, ⟨⟨trivial, ⟨wrackkeep2_sameItems_i0_slices_EqualFunc.nat0 N, trivial⟩⟩, trivial⟩⟩⟩
theorem wrackkeep2_sameItems_i0_slices_EqualFunc.sound (N : Nat) : SoundIn Tryd.prog 36 (inl (wrackkeep2_sameItems_i0_slices_EqualFunc.C N) Tryd.f36 wrackkeep2_sameItems_i0_slices_EqualFunc.h) := soundIn_of (wrackkeep2_sameItems_i0_slices_EqualFunc.ok N) mix Tryd.func36 (by kernel_rfl) (by kernel_rfl) (loopsOK_list wrackkeep2_sameItems_i0_slices_EqualFunc.loops ⟨(wrackkeep2_sameItems_i0_slices_EqualFunc.is0 N).ok, trivial⟩)
def wrackkeep2_sameItems.h : HT := .nil
noncomputable def wrackkeep2_sameItems.is (N : Nat) : List (Nat × Nat × InlSum) := [(36, 7, frozenJ (inl (wrackkeep2_sameItems_i0_slices_EqualFunc.C N) Tryd.f36 wrackkeep2_sameItems_i0_slices_EqualFunc.h))]
noncomputable def wrackkeep2_sameItems.C (N : Nat) : Ctx := mkCtx env 0 [] (wrackkeep2_sameItems.is N) [] []
theorem wrackkeep2_sameItems.natIs (N : Nat) : NatIs (wrackkeep2_sameItems.is N) := ⟨frozenJ_nat (wrackkeep2_sameItems_i0_slices_EqualFunc.natI N), trivial⟩
theorem wrackkeep2_sameItems.loops : loopsOf (codeOf Tryd.f14) wrackkeep2_sameItems.h = [] := by kernel_rfl
theorem wrackkeep2_sameItems.ok (N : Nat) : CtxOK (wrackkeep2_sameItems.C N) := mkCtx_ok env_ok trivial ⟨frozenJ_sound (wrackkeep2_sameItems_i0_slices_EqualFunc.sound N), trivial⟩ (wrackkeep2_sameItems.natIs N) trivial trivial trivial
def wrackkeep2_sameItems.T (N : Nat) : TFun := { arg := (.pair (.slice (.pair .str (.slice (.int .u8)))) (.slice (.pair .str (.slice (.int .u8))))), res := .bool, args := [(false, 1), (false, 1)], parts := [(false, 1)], own := [], f := fun a => wrackkeep2_sameItems N a.1 a.2 }
theorem wrackkeep2_sameItems.eq (N : Nat) (a : (wrackkeep2_sameItems.T N).arg.den) : denFun (wrackkeep2_sameItems.C N) Tryd.f14 wrackkeep2_sameItems.h (wrackkeep2_sameItems.T N) a = (wrackkeep2_sameItems.T N).f a := by kernel_rfl
theorem wrackkeep2_sameItems.sound (N : Nat) : Sound Tryd.prog 14 (wrackkeep2_sameItems.T N) := sound_of (wrackkeep2_sameItems.ok N) mix Tryd.func14 (by kernel_rfl) (by kernel_rfl) (loopsOK_list wrackkeep2_sameItems.loops trivial) (wrackkeep2_sameItems.eq N)
def arch_Get.T0 : Tmpl := { len := 50, live := [(4, .one (.ptr 0 0)), (24, .one (.own 1)), (26, .one .hole)], vars := [(0, [.hole, .nil])], nx := 2, ty := (.pair (.slice (.int .i64)) (.pair (.int .i64) (.pair .str .unit))) }
def arch_Get.K0 : Tmpl := { len := 50, live := [(0, .one .hole), (1, .one .hole), (7, .one .hole), (25, .one .hole)], nx := 0, ty := (.pair (.slice (.int .u8)) (.pair .str (.pair (.int .i64) (.pair (.int .i64) .unit)))) }
def arch_Get.X0_0 : Tmpl := { len := 50, live := [(4, .one (.ptr 0 0))], vars := [(0, [.hole, .nil])], nx := 1, ty := (.pair .str .unit) }
def arch_Get.R0 : Tmpl := { len := 50, live := [(4, .one (.ptr 0 0)), (5, .one .hole)], vars := [(0, [.hole, .own 1])], nx := 2, ty := (.pair (.int .i64) (.pair .str (.pair (.slice (.int .u8)) .unit))) }
def arch_Get.L0 (N : Nat) : LoopSum := { T := arch_Get.T0, keep := arch_Get.K0, exits := [(0, arch_Get.X0_0)], rets := some arch_Get.R0, run := fun {R} K s c v => iter (arch_Get.s0 N s (fun x => K (.exit 0) (arch_Get.X0_0.unpack (arch_Get.K0.base c) x)) (fun x => K .ret (arch_Get.R0.unpack (arch_Get.K0.base c) x)) c) s N v }
def arch_Get.h : HT := (.node .nil (.node .nil (.node .nil (.node (.node .nil (.node (.loop 0 .nil) .nil)) .nil))))
noncomputable def arch_Get.is (N : Nat) : List (Nat × Nat × InlSum) := []
noncomputable def arch_Get.C (N : Nat) : Ctx := mkCtx env 0 [(10, arch_Places.T N), (35, arch_one.T N)] (arch_Get.is N) [(0, arch_Get.L0 N)] []
theorem arch_Get.natIs (N : Nat) : NatIs (arch_Get.is N) := trivial
theorem arch_Get.step0 (N : Nat) {R : Type} (K : Ex → St → R) (s : R) (c : arch_Get.K0.ty.den) (again : arch_Get.T0.ty.den → R) (v : arch_Get.T0.ty.den) :
    roundC (arch_Get.C N) (at_ (codeOf Tryd.f16) [true, true, true, false, true, false, false]) .nil arch_Get.T0 (arch_Get.L0 N).exits (arch_Get.L0 N).rets K s (arch_Get.K0.base c) again v = arch_Get.s0 N s (fun x => K (.exit 0) (arch_Get.X0_0.unpack (arch_Get.K0.base c) x)) (fun x => K .ret (arch_Get.R0.unpack (arch_Get.K0.base c) x)) c again v := by kernel_rfl
theorem arch_Get.is0 (N : Nat) : LoopIs (arch_Get.C N) 0 (at_ (codeOf Tryd.f16) [true, true, true, false, true, false, false]) .nil N := loopIs_of (arch_Get.L0 N) rfl (fun {R} K s c => arch_Get.s0 N s (fun x => K (.exit 0) (arch_Get.X0_0.unpack (arch_Get.K0.base c) x)) (fun x => K .ret (arch_Get.R0.unpack (arch_Get.K0.base c) x)) c) (fun _ _ _ _ => rfl) (fun K s c again v => arch_Get.step0 N K s c again v)
theorem arch_Get.nat0 (N : Nat) : ∀ L, (arch_Get.C N).Λ 0 = some L → NatL L := nat_of_is (arch_Get.is0 N) (mkCtx_nat (arch_Get.natIs N)) trivial
theorem arch_Get.loops : loopsOf (codeOf Tryd.f16) arch_Get.h = [.loop 0 (at_ (codeOf Tryd.f16) [true, true, true, false, true, false, false]) .nil] := by kernel_rfl
theorem arch_Get.ok (N : Nat) : CtxOK (arch_Get.C N) := mkCtx_ok env_ok ⟨arch_Places.sound N, arch_one.sound N, trivial⟩ trivial (arch_Get.natIs N) ⟨natL_of (id := 0) rfl (arch_Get.nat0 N), trivial⟩ trivial trivial
def arch_Get.T (N : Nat) : TFun := { arg := (.pair (.slice (.int .u8)) .str), res := (.pair (.pair .str (.slice (.int .u8))) (.int .i64)), args := [(false, 1), (false, 1)], parts := [(true, 2), (false, 1)], own := [1], f := fun a => arch_Get N a.1 a.2 }
theorem arch_Get.eq (N : Nat) (a : (arch_Get.T N).arg.den) : denFun (arch_Get.C N) Tryd.f16 arch_Get.h (arch_Get.T N) a = (arch_Get.T N).f a := by kernel_rfl
theorem arch_Get.sound (N : Nat) : Sound Tryd.prog 16 (arch_Get.T N) := sound_of (arch_Get.ok N) mix Tryd.func16 (by kernel_rfl) (by kernel_rfl) (loopsOK_list arch_Get.loops ⟨(arch_Get.is0 N).ok, trivial⟩) (arch_Get.eq N)
def wrackkeep2_ArchBack.h : HT := (.node .nil (.node .nil (.node .nil (.node .nil (.node (.node (.test 44 []) .nil) (.node .nil (.node .nil (.node .nil (.node .nil (.node (.pair [0, 1, 3, 0, 8, 24, 63, 127, 255, 255, 511, 2047]) .nil))))))))))
noncomputable def wrackkeep2_ArchBack.is (N : Nat) : List (Nat × Nat × InlSum) := []
noncomputable def wrackkeep2_ArchBack.C (N : Nat) : Ctx := mkCtx env 0 [(8, wrackkeep2_items.T N), (9, arch_Make.T N), (11, wrackkeep2_packs.T N), (12, wrackmake_Below.T N), (14, wrackkeep2_sameItems.T N), (15, arch_Read.T N), (16, arch_Get.T N), (17, arch_Unpack.T N), (18, arch_Pack.T N), (19, slices_Equal_byte.T N)] (wrackkeep2_ArchBack.is N) [] []
theorem wrackkeep2_ArchBack.natIs (N : Nat) : NatIs (wrackkeep2_ArchBack.is N) := trivial
theorem wrackkeep2_ArchBack.loops : loopsOf (codeOf Tryd.f4) wrackkeep2_ArchBack.h = [] := by kernel_rfl
theorem wrackkeep2_ArchBack.ok (N : Nat) : CtxOK (wrackkeep2_ArchBack.C N) := mkCtx_ok env_ok ⟨wrackkeep2_items.sound N, arch_Make.sound N, wrackkeep2_packs.sound N, wrackmake_Below.sound N, wrackkeep2_sameItems.sound N, arch_Read.sound N, arch_Get.sound N, arch_Unpack.sound N, arch_Pack.sound N, slices_Equal_byte.sound N, trivial⟩ trivial (wrackkeep2_ArchBack.natIs N) trivial trivial trivial
def wrackkeep2_ArchBack.T (N : Nat) : TFun := { arg := (.pair (.slice (.int .i64)) (.int .i64)), res := .bool, args := [(false, 1), (false, 1)], parts := [(false, 1)], own := [], f := fun a => wrackkeep2_ArchBack N a.1 a.2 }
theorem wrackkeep2_ArchBack.eq (N : Nat) (a : (wrackkeep2_ArchBack.T N).arg.den) : denFun (wrackkeep2_ArchBack.C N) Tryd.f4 wrackkeep2_ArchBack.h (wrackkeep2_ArchBack.T N) a = (wrackkeep2_ArchBack.T N).f a := by kernel_rfl
theorem wrackkeep2_ArchBack.sound (N : Nat) : Sound Tryd.prog 4 (wrackkeep2_ArchBack.T N) := sound_of (wrackkeep2_ArchBack.ok N) mix Tryd.func4 (by kernel_rfl) (by kernel_rfl) (loopsOK_list wrackkeep2_ArchBack.loops trivial) (wrackkeep2_ArchBack.eq N)
end Go.Proofs.YteekijpcdcpjkaaDoor
