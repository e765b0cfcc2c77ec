import Derived.Test.YthkpfkjbflcpnaaDoorPu
import Derived.Test.YthkpfkjbflcpnaaDoorGnEnv
import Derived.Test.YthkpfkjbflcpnaaDoorGnShStr
set_option linter.unusedVariables false
set_option maxRecDepth 100000
namespace Go.Proofs.YthkpfkjbflcpnaaDoor
open Go Go.Ab
def strings_Split.h : HT := .nil
noncomputable def strings_Split.is (N : Nat) : List (Nat × Nat × InlSum) := []
noncomputable def strings_Split.C (N : Nat) : Ctx := mkCtx env 0 [(34, strings_genSplit.T N)] (strings_Split.is N) [] []
theorem strings_Split.natIs (N : Nat) : NatIs (strings_Split.is N) := trivial
theorem strings_Split.loops : loopsOf (codeOf Tryd.f8) strings_Split.h = [] := by kernel_rfl
theorem strings_Split.ok (N : Nat) : CtxOK (strings_Split.C N) := mkCtx_ok env_ok ⟨strings_genSplit.sound N, trivial⟩ trivial (strings_Split.natIs N) trivial trivial trivial
def strings_Split.T (N : Nat) : TFun := { arg := (.pair .str .str), res := (.slice .str), args := [(false, 1), (false, 1)], parts := [(false, 1)], own := [0], f := fun a => strings_Split N a.1 a.2 }
theorem strings_Split.eq (N : Nat) (a : (strings_Split.T N).arg.den) : denFun (strings_Split.C N) Tryd.f8 strings_Split.h (strings_Split.T N) a = (strings_Split.T N).f a := by kernel_rfl
theorem strings_Split.sound (N : Nat) : Sound Tryd.prog 8 (strings_Split.T N) := sound_of (strings_Split.ok N) mix Tryd.func8 (by kernel_rfl) (by kernel_rfl) (loopsOK_list strings_Split.loops trivial) (strings_Split.eq N)
def strings_Contains.h : HT := .nil
noncomputable def strings_Contains.is (N : Nat) : List (Nat × Nat × InlSum) := []
noncomputable def strings_Contains.C (N : Nat) : Ctx := mkCtx env 0 [(56, strings_Index.T N)] (strings_Contains.is N) [] []
theorem strings_Contains.natIs (N : Nat) : NatIs (strings_Contains.is N) := trivial
theorem strings_Contains.loops : loopsOf (codeOf Tryd.f35) strings_Contains.h = [] := by kernel_rfl
theorem strings_Contains.ok (N : Nat) : CtxOK (strings_Contains.C N) := mkCtx_ok env_ok ⟨strings_Index.sound N, trivial⟩ trivial (strings_Contains.natIs N) trivial trivial trivial
def strings_Contains.T (N : Nat) : TFun := { arg := (.pair .str .str), res := .bool, args := [(false, 1), (false, 1)], parts := [(false, 1)], own := [], f := fun a => strings_Contains N a.1 a.2 }
theorem strings_Contains.eq (N : Nat) (a : (strings_Contains.T N).arg.den) : denFun (strings_Contains.C N) Tryd.f35 strings_Contains.h (strings_Contains.T N) a = (strings_Contains.T N).f a := by kernel_rfl
theorem strings_Contains.sound (N : Nat) : Sound Tryd.prog 35 (strings_Contains.T N) := sound_of (strings_Contains.ok N) mix Tryd.func35 (by kernel_rfl) (by kernel_rfl) (loopsOK_list strings_Contains.loops trivial) (strings_Contains.eq N)
def wrackref2_Word.h : HT := (.node .nil (.node (.test 2 []) .nil))
noncomputable def wrackref2_Word.is (N : Nat) : List (Nat × Nat × InlSum) := []
noncomputable def wrackref2_Word.C (N : Nat) : Ctx := mkCtx env 0 [(35, strings_Contains.T N), (36, strings_Trim.T N)] (wrackref2_Word.is N) [] []
theorem wrackref2_Word.natIs (N : Nat) : NatIs (wrackref2_Word.is N) := trivial
theorem wrackref2_Word.loops : loopsOf (codeOf Tryd.f11) wrackref2_Word.h = [] := by kernel_rfl
theorem wrackref2_Word.ok (N : Nat) : CtxOK (wrackref2_Word.C N) := mkCtx_ok env_ok ⟨strings_Contains.sound N, strings_Trim.sound N, trivial⟩ trivial (wrackref2_Word.natIs N) trivial trivial trivial
def wrackref2_Word.T (N : Nat) : TFun := { arg := .str, res := .bool, args := [(false, 1)], parts := [(false, 1)], own := [], f := fun a => wrackref2_Word N a }
theorem wrackref2_Word.eq (N : Nat) (a : (wrackref2_Word.T N).arg.den) : denFun (wrackref2_Word.C N) Tryd.f11 wrackref2_Word.h (wrackref2_Word.T N) a = (wrackref2_Word.T N).f a := by kernel_rfl
theorem wrackref2_Word.sound (N : Nat) : Sound Tryd.prog 11 (wrackref2_Word.T N) := sound_of (wrackref2_Word.ok N) mix Tryd.func11 (by kernel_rfl) (by kernel_rfl) (loopsOK_list wrackref2_Word.loops trivial) (wrackref2_Word.eq N)
def wrackref2_Way.T0 : Tmpl := { len := 21, live := [(3, .one .hole), (8, .one .hole), (10, .one .hole)], nx := 0, ty := (.pair (.slice .str) (.pair (.slice .str) (.pair (.int .i64) .unit))) }
def wrackref2_Way.K0 : Tmpl := { len := 21, live := [(9, .one .hole)], nx := 0, ty := (.pair (.int .i64) .unit) }
def wrackref2_Way.X0_0 : Tmpl := { len := 21, live := [(3, .one .hole)], nx := 0, ty := (.pair (.slice .str) .unit) }
def wrackref2_Way.R0 : Tmpl := { len := 21, live := [(2, .one .hole)], nx := 0, ty := (.pair .bool .unit) }
def wrackref2_Way.L0 (N : Nat) : LoopSum := { T := wrackref2_Way.T0, keep := wrackref2_Way.K0, exits := [(0, wrackref2_Way.X0_0)], rets := some wrackref2_Way.R0, run := fun {R} K s c v => iter (wrackref2_Way.s0 N s (fun x => K (.exit 0) (wrackref2_Way.X0_0.unpack (wrackref2_Way.K0.base c) x)) (fun x => K .ret (wrackref2_Way.R0.unpack (wrackref2_Way.K0.base c) x)) c) s N v }
def wrackref2_Way.h : HT := (.node .nil (.node .nil (.node (.node .nil (.node (.loop 0 .nil) .nil)) .nil)))
noncomputable def wrackref2_Way.is (N : Nat) : List (Nat × Nat × InlSum) := []
noncomputable def wrackref2_Way.C (N : Nat) : Ctx := mkCtx env 0 [(8, strings_Split.T N), (11, wrackref2_Word.T N)] (wrackref2_Way.is N) [(0, wrackref2_Way.L0 N)] []
theorem wrackref2_Way.natIs (N : Nat) : NatIs (wrackref2_Way.is N) := trivial
theorem wrackref2_Way.step0 (N : Nat) {R : Type} (K : Ex → St → R) (s : R) (c : wrackref2_Way.K0.ty.den) (again : wrackref2_Way.T0.ty.den → R) (v : wrackref2_Way.T0.ty.den) :
    roundC (wrackref2_Way.C N) (at_ (codeOf Tryd.f7) [true, true, false, true, false, false]) .nil wrackref2_Way.T0 (wrackref2_Way.L0 N).exits (wrackref2_Way.L0 N).rets K s (wrackref2_Way.K0.base c) again v = wrackref2_Way.s0 N s (fun x => K (.exit 0) (wrackref2_Way.X0_0.unpack (wrackref2_Way.K0.base c) x)) (fun x => K .ret (wrackref2_Way.R0.unpack (wrackref2_Way.K0.base c) x)) c again v := by kernel_rfl
theorem wrackref2_Way.is0 (N : Nat) : LoopIs (wrackref2_Way.C N) 0 (at_ (codeOf Tryd.f7) [true, true, false, true, false, false]) .nil N := loopIs_of (wrackref2_Way.L0 N) rfl (fun {R} K s c => wrackref2_Way.s0 N s (fun x => K (.exit 0) (wrackref2_Way.X0_0.unpack (wrackref2_Way.K0.base c) x)) (fun x => K .ret (wrackref2_Way.R0.unpack (wrackref2_Way.K0.base c) x)) c) (fun _ _ _ _ => rfl) (fun K s c again v => wrackref2_Way.step0 N K s c again v)
theorem wrackref2_Way.nat0 (N : Nat) : ∀ L, (wrackref2_Way.C N).Λ 0 = some L → NatL L := nat_of_is (wrackref2_Way.is0 N) (mkCtx_nat (wrackref2_Way.natIs N)) trivial
theorem wrackref2_Way.loops : loopsOf (codeOf Tryd.f7) wrackref2_Way.h = [.loop 0 (at_ (codeOf Tryd.f7) [true, true, false, true, false, false]) .nil] := by kernel_rfl
theorem wrackref2_Way.ok (N : Nat) : CtxOK (wrackref2_Way.C N) := mkCtx_ok env_ok ⟨strings_Split.sound N, wrackref2_Word.sound N, trivial⟩ trivial (wrackref2_Way.natIs N) ⟨natL_of (id := 0) rfl (wrackref2_Way.nat0 N), trivial⟩ trivial trivial
def wrackref2_Way.T (N : Nat) : TFun := { arg := .str, res := .bool, args := [(false, 1)], parts := [(false, 1)], own := [], f := fun a => wrackref2_Way N a }
theorem wrackref2_Way.eq (N : Nat) (a : (wrackref2_Way.T N).arg.den) : denFun (wrackref2_Way.C N) Tryd.f7 wrackref2_Way.h (wrackref2_Way.T N) a = (wrackref2_Way.T N).f a := by kernel_rfl
theorem wrackref2_Way.sound (N : Nat) : Sound Tryd.prog 7 (wrackref2_Way.T N) := sound_of (wrackref2_Way.ok N) mix Tryd.func7 (by kernel_rfl) (by kernel_rfl) (loopsOK_list wrackref2_Way.loops ⟨(wrackref2_Way.is0 N).ok, trivial⟩) (wrackref2_Way.eq N)
def bytealg_LastIndexByteString.T0 : Tmpl := { len := 19, live := [(5, .one .hole)], nx := 0, ty := (.pair (.int .i64) .unit) }
def bytealg_LastIndexByteString.K0 : Tmpl := { len := 19, live := [(0, .one .hole), (1, .one .hole)], nx := 0, ty := (.pair .str (.pair (.int .u8) .unit)) }
def bytealg_LastIndexByteString.X0_0 : Tmpl := { len := 19, live := [], nx := 0, ty := .unit }
def bytealg_LastIndexByteString.R0 : Tmpl := { len := 19, live := [(4, .one .hole)], nx := 0, ty := (.pair (.int .i64) .unit) }
def bytealg_LastIndexByteString.L0 (N : Nat) : LoopSum := { T := bytealg_LastIndexByteString.T0, keep := bytealg_LastIndexByteString.K0, exits := [(0, bytealg_LastIndexByteString.X0_0)], rets := some bytealg_LastIndexByteString.R0, run := fun {R} K s c v => iter (bytealg_LastIndexByteString.s0 N s (fun x => K (.exit 0) (bytealg_LastIndexByteString.X0_0.unpack (bytealg_LastIndexByteString.K0.base c) x)) (fun x => K .ret (bytealg_LastIndexByteString.R0.unpack (bytealg_LastIndexByteString.K0.base c) x)) c) s N v }
def bytealg_LastIndexByteString.h : HT := (.node .nil (.node (.node .nil (.node (.loop 0 .nil) .nil)) .nil))
noncomputable def bytealg_LastIndexByteString.is (N : Nat) : List (Nat × Nat × InlSum) := []
noncomputable def bytealg_LastIndexByteString.C (N : Nat) : Ctx := mkCtx env 0 [] (bytealg_LastIndexByteString.is N) [(0, bytealg_LastIndexByteString.L0 N)] []
theorem bytealg_LastIndexByteString.natIs (N : Nat) : NatIs (bytealg_LastIndexByteString.is N) := trivial
theorem bytealg_LastIndexByteString.step0 (N : Nat) {R : Type} (K : Ex → St → R) (s : R) (c : bytealg_LastIndexByteString.K0.ty.den) (again : bytealg_LastIndexByteString.T0.ty.den → R) (v : bytealg_LastIndexByteString.T0.ty.den) :
    roundC (bytealg_LastIndexByteString.C N) (at_ (codeOf Tryd.f65) [true, false, true, false, false]) .nil bytealg_LastIndexByteString.T0 (bytealg_LastIndexByteString.L0 N).exits (bytealg_LastIndexByteString.L0 N).rets K s (bytealg_LastIndexByteString.K0.base c) again v = bytealg_LastIndexByteString.s0 N s (fun x => K (.exit 0) (bytealg_LastIndexByteString.X0_0.unpack (bytealg_LastIndexByteString.K0.base c) x)) (fun x => K .ret (bytealg_LastIndexByteString.R0.unpack (bytealg_LastIndexByteString.K0.base c) x)) c again v := by kernel_rfl
theorem bytealg_LastIndexByteString.is0 (N : Nat) : LoopIs (bytealg_LastIndexByteString.C N) 0 (at_ (codeOf Tryd.f65) [true, false, true, false, false]) .nil N := loopIs_of (bytealg_LastIndexByteString.L0 N) rfl (fun {R} K s c => bytealg_LastIndexByteString.s0 N s (fun x => K (.exit 0) (bytealg_LastIndexByteString.X0_0.unpack (bytealg_LastIndexByteString.K0.base c) x)) (fun x => K .ret (bytealg_LastIndexByteString.R0.unpack (bytealg_LastIndexByteString.K0.base c) x)) c) (fun _ _ _ _ => rfl) (fun K s c again v => bytealg_LastIndexByteString.step0 N K s c again v)
theorem bytealg_LastIndexByteString.nat0 (N : Nat) : ∀ L, (bytealg_LastIndexByteString.C N).Λ 0 = some L → NatL L := nat_of_is (bytealg_LastIndexByteString.is0 N) (mkCtx_nat (bytealg_LastIndexByteString.natIs N)) trivial
theorem bytealg_LastIndexByteString.loops : loopsOf (codeOf Tryd.f65) bytealg_LastIndexByteString.h = [.loop 0 (at_ (codeOf Tryd.f65) [true, false, true, false, false]) .nil] := by kernel_rfl
theorem bytealg_LastIndexByteString.ok (N : Nat) : CtxOK (bytealg_LastIndexByteString.C N) := mkCtx_ok env_ok trivial trivial (bytealg_LastIndexByteString.natIs N) ⟨natL_of (id := 0) rfl (bytealg_LastIndexByteString.nat0 N), trivial⟩ trivial trivial
def bytealg_LastIndexByteString.T (N : Nat) : TFun := { arg := (.pair .str (.int .u8)), res := (.int .i64), args := [(false, 1), (false, 1)], parts := [(false, 1)], own := [], f := fun a => bytealg_LastIndexByteString N a.1 a.2 }
theorem bytealg_LastIndexByteString.eq (N : Nat) (a : (bytealg_LastIndexByteString.T N).arg.den) : denFun (bytealg_LastIndexByteString.C N) Tryd.f65 bytealg_LastIndexByteString.h (bytealg_LastIndexByteString.T N) a = (bytealg_LastIndexByteString.T N).f a := by kernel_rfl
theorem bytealg_LastIndexByteString.sound (N : Nat) : Sound Tryd.prog 65 (bytealg_LastIndexByteString.T N) := sound_of (bytealg_LastIndexByteString.ok N) mix Tryd.func65 (by kernel_rfl) (by kernel_rfl) (loopsOK_list bytealg_LastIndexByteString.loops ⟨(bytealg_LastIndexByteString.is0 N).ok, trivial⟩) (bytealg_LastIndexByteString.eq N)
def strings_LastIndexByte.h : HT := .nil
noncomputable def strings_LastIndexByte.is (N : Nat) : List (Nat × Nat × InlSum) := []
noncomputable def strings_LastIndexByte.C (N : Nat) : Ctx := mkCtx env 0 [(65, bytealg_LastIndexByteString.T N)] (strings_LastIndexByte.is N) [] []
theorem strings_LastIndexByte.natIs (N : Nat) : NatIs (strings_LastIndexByte.is N) := trivial
theorem strings_LastIndexByte.loops : loopsOf (codeOf Tryd.f39) strings_LastIndexByte.h = [] := by kernel_rfl
theorem strings_LastIndexByte.ok (N : Nat) : CtxOK (strings_LastIndexByte.C N) := mkCtx_ok env_ok ⟨bytealg_LastIndexByteString.sound N, trivial⟩ trivial (strings_LastIndexByte.natIs N) trivial trivial trivial
def strings_LastIndexByte.T (N : Nat) : TFun := { arg := (.pair .str (.int .u8)), res := (.int .i64), args := [(false, 1), (false, 1)], parts := [(false, 1)], own := [], f := fun a => strings_LastIndexByte N a.1 a.2 }
theorem strings_LastIndexByte.eq (N : Nat) (a : (strings_LastIndexByte.T N).arg.den) : denFun (strings_LastIndexByte.C N) Tryd.f39 strings_LastIndexByte.h (strings_LastIndexByte.T N) a = (strings_LastIndexByte.T N).f a := by kernel_rfl
theorem strings_LastIndexByte.sound (N : Nat) : Sound Tryd.prog 39 (strings_LastIndexByte.T N) := sound_of (strings_LastIndexByte.ok N) mix Tryd.func39 (by kernel_rfl) (by kernel_rfl) (loopsOK_list strings_LastIndexByte.loops trivial) (strings_LastIndexByte.eq N)
def fs_Dir.h : HT := .nil
noncomputable def fs_Dir.is (N : Nat) : List (Nat × Nat × InlSum) := []
noncomputable def fs_Dir.C (N : Nat) : Ctx := mkCtx env 0 [(39, strings_LastIndexByte.T N)] (fs_Dir.is N) [] []
theorem fs_Dir.natIs (N : Nat) : NatIs (fs_Dir.is N) := trivial
theorem fs_Dir.loops : loopsOf (codeOf Tryd.f13) fs_Dir.h = [] := by kernel_rfl
theorem fs_Dir.ok (N : Nat) : CtxOK (fs_Dir.C N) := mkCtx_ok env_ok ⟨strings_LastIndexByte.sound N, trivial⟩ trivial (fs_Dir.natIs N) trivial trivial trivial
def fs_Dir.T (N : Nat) : TFun := { arg := .str, res := .str, args := [(false, 1)], parts := [(false, 1)], own := [], f := fun a => fs_Dir N a }
theorem fs_Dir.eq (N : Nat) (a : (fs_Dir.T N).arg.den) : denFun (fs_Dir.C N) Tryd.f13 fs_Dir.h (fs_Dir.T N) a = (fs_Dir.T N).f a := by kernel_rfl
theorem fs_Dir.sound (N : Nat) : Sound Tryd.prog 13 (fs_Dir.T N) := sound_of (fs_Dir.ok N) mix Tryd.func13 (by kernel_rfl) (by kernel_rfl) (loopsOK_list fs_Dir.loops trivial) (fs_Dir.eq N)
def fs_Name.h : HT := .nil
noncomputable def fs_Name.is (N : Nat) : List (Nat × Nat × InlSum) := []
noncomputable def fs_Name.C (N : Nat) : Ctx := mkCtx env 0 [(39, strings_LastIndexByte.T N)] (fs_Name.is N) [] []
theorem fs_Name.natIs (N : Nat) : NatIs (fs_Name.is N) := trivial
theorem fs_Name.loops : loopsOf (codeOf Tryd.f15) fs_Name.h = [] := by kernel_rfl
theorem fs_Name.ok (N : Nat) : CtxOK (fs_Name.C N) := mkCtx_ok env_ok ⟨strings_LastIndexByte.sound N, trivial⟩ trivial (fs_Name.natIs N) trivial trivial trivial
def fs_Name.T (N : Nat) : TFun := { arg := .str, res := .str, args := [(false, 1)], parts := [(false, 1)], own := [], f := fun a => fs_Name N a }
theorem fs_Name.eq (N : Nat) (a : (fs_Name.T N).arg.den) : denFun (fs_Name.C N) Tryd.f15 fs_Name.h (fs_Name.T N) a = (fs_Name.T N).f a := by kernel_rfl
theorem fs_Name.sound (N : Nat) : Sound Tryd.prog 15 (fs_Name.T N) := sound_of (fs_Name.ok N) mix Tryd.func15 (by kernel_rfl) (by kernel_rfl) (loopsOK_list fs_Name.loops trivial) (fs_Name.eq N)
def fs_Named.T0 : Tmpl := { len := 49, live := [(24, .one .hole)], nx := 0, ty := (.pair (.int .i64) .unit) }
def fs_Named.K0 : Tmpl := { len := 49, live := [(0, .one .hole), (23, .one .hole)], nx := 0, ty := (.pair .str (.pair (.int .i64) .unit)) }
def fs_Named.X0_0 : Tmpl := { len := 49, live := [], nx := 0, ty := .unit }
def fs_Named.R0 : Tmpl := { len := 49, live := [(2, .one .hole)], nx := 0, ty := (.pair .bool .unit) }
def fs_Named.L0 (N : Nat) : LoopSum := { T := fs_Named.T0, keep := fs_Named.K0, exits := [(0, fs_Named.X0_0)], rets := some fs_Named.R0, run := fun {R} K s c v => iter (fs_Named.s0 N s (fun x => K (.exit 0) (fs_Named.X0_0.unpack (fs_Named.K0.base c) x)) (fun x => K .ret (fs_Named.R0.unpack (fs_Named.K0.base c) x)) c) s N v }
def fs_Named.h : HT := (.node .nil (.node (.node (.test 21 []) .nil) (.node (.node .nil (.node (.loop 0 (.node .nil (.node .nil (.node (.node (.node .nil (.node .nil (.node (.test 47 []) .nil))) .nil) .nil)))) .nil)) .nil)))
noncomputable def fs_Named.is (N : Nat) : List (Nat × Nat × InlSum) := []
noncomputable def fs_Named.C (N : Nat) : Ctx := mkCtx env 0 [] (fs_Named.is N) [(0, fs_Named.L0 N)] []
theorem fs_Named.natIs (N : Nat) : NatIs (fs_Named.is N) := trivial
theorem fs_Named.step0 (N : Nat) {R : Type} (K : Ex → St → R) (s : R) (c : fs_Named.K0.ty.den) (again : fs_Named.T0.ty.den → R) (v : fs_Named.T0.ty.den) :
    roundC (fs_Named.C N) (at_ (codeOf Tryd.f10) [true, true, false, true, false, false]) (.node .nil (.node .nil (.node (.node (.node .nil (.node .nil (.node (.test 47 []) .nil))) .nil) .nil))) fs_Named.T0 (fs_Named.L0 N).exits (fs_Named.L0 N).rets K s (fs_Named.K0.base c) again v = fs_Named.s0 N s (fun x => K (.exit 0) (fs_Named.X0_0.unpack (fs_Named.K0.base c) x)) (fun x => K .ret (fs_Named.R0.unpack (fs_Named.K0.base c) x)) c again v := by kernel_rfl
theorem fs_Named.is0 (N : Nat) : LoopIs (fs_Named.C N) 0 (at_ (codeOf Tryd.f10) [true, true, false, true, false, false]) (.node .nil (.node .nil (.node (.node (.node .nil (.node .nil (.node (.test 47 []) .nil))) .nil) .nil))) N := loopIs_of (fs_Named.L0 N) rfl (fun {R} K s c => fs_Named.s0 N s (fun x => K (.exit 0) (fs_Named.X0_0.unpack (fs_Named.K0.base c) x)) (fun x => K .ret (fs_Named.R0.unpack (fs_Named.K0.base c) x)) c) (fun _ _ _ _ => rfl) (fun K s c again v => fs_Named.step0 N K s c again v)
theorem fs_Named.nat0 (N : Nat) : ∀ L, (fs_Named.C N).Λ 0 = some L → NatL L := nat_of_is (fs_Named.is0 N) (mkCtx_nat (fs_Named.natIs N)) ⟨trivial, ⟨trivial, ⟨⟨⟨trivial, ⟨trivial, ⟨trivial, trivial⟩⟩⟩, trivial⟩, trivial⟩⟩⟩
theorem fs_Named.loops : loopsOf (codeOf Tryd.f10) fs_Named.h = [.loop 0 (at_ (codeOf Tryd.f10) [true, true, false, true, false, false]) (.node .nil (.node .nil (.node (.node (.node .nil (.node .nil (.node (.test 47 []) .nil))) .nil) .nil)))] := by kernel_rfl
theorem fs_Named.ok (N : Nat) : CtxOK (fs_Named.C N) := mkCtx_ok env_ok trivial trivial (fs_Named.natIs N) ⟨natL_of (id := 0) rfl (fs_Named.nat0 N), trivial⟩ trivial trivial
def fs_Named.T (N : Nat) : TFun := { arg := .str, res := .bool, args := [(false, 1)], parts := [(false, 1)], own := [], f := fun a => fs_Named N a }
theorem fs_Named.eq (N : Nat) (a : (fs_Named.T N).arg.den) : denFun (fs_Named.C N) Tryd.f10 fs_Named.h (fs_Named.T N) a = (fs_Named.T N).f a := by kernel_rfl
theorem fs_Named.sound (N : Nat) : Sound Tryd.prog 10 (fs_Named.T N) := sound_of (fs_Named.ok N) mix Tryd.func10 (by kernel_rfl) (by kernel_rfl) (loopsOK_list fs_Named.loops ⟨(fs_Named.is0 N).ok, trivial⟩) (fs_Named.eq N)
def fs_Path_1.h : HT := .nil
noncomputable def fs_Path_1.is (N : Nat) : List (Nat × Nat × InlSum) := []
noncomputable def fs_Path_1.C (N : Nat) : Ctx := mkCtx env 0 [(10, fs_Named.T N)] (fs_Path_1.is N) [] []
theorem fs_Path_1.natIs (N : Nat) : NatIs (fs_Path_1.is N) := trivial
theorem fs_Path_1.loops : loopsOf (codeOf Tryd.f38) fs_Path_1.h = [] := by kernel_rfl
theorem fs_Path_1.ok (N : Nat) : CtxOK (fs_Path_1.C N) := mkCtx_ok env_ok ⟨fs_Named.sound N, trivial⟩ trivial (fs_Path_1.natIs N) trivial trivial trivial
def fs_Path_1.T (N : Nat) : TFun := { arg := .str, res := .bool, args := [(false, 1)], parts := [(false, 1)], own := [], f := fun a => fs_Path_1 N a }
theorem fs_Path_1.eq (N : Nat) (a : (fs_Path_1.T N).arg.den) : denFun (fs_Path_1.C N) Tryd.f38 fs_Path_1.h (fs_Path_1.T N) a = (fs_Path_1.T N).f a := by kernel_rfl
theorem fs_Path_1.sound (N : Nat) : Sound Tryd.prog 38 (fs_Path_1.T N) := sound_of (fs_Path_1.ok N) mix Tryd.func38 (by kernel_rfl) (by kernel_rfl) (loopsOK_list fs_Path_1.loops trivial) (fs_Path_1.eq N)
def fs_Path_i0_slices_ContainsFunc_i0_slices_IndexFunc.T0 : Tmpl := { len := 19, live := [(1, .one (.fn 38 [])), (8, .one .hole)], nx := 9, ty := (.pair (.int .i64) .unit) }
def fs_Path_i0_slices_ContainsFunc_i0_slices_IndexFunc.K0 : Tmpl := { len := 19, live := [(0, .one .hole), (7, .one .hole)], nx := 0, ty := (.pair (.slice .str) (.pair (.int .i64) .unit)) }
def fs_Path_i0_slices_ContainsFunc_i0_slices_IndexFunc.X0_0 : Tmpl := { len := 19, live := [], nx := 9, ty := .unit }
def fs_Path_i0_slices_ContainsFunc_i0_slices_IndexFunc.R0 : Tmpl := { len := 19, live := [(4, .one .hole)], nx := 9, ty := (.pair (.int .i64) .unit) }
def fs_Path_i0_slices_ContainsFunc_i0_slices_IndexFunc.L0 (N : Nat) : LoopSum := { T := fs_Path_i0_slices_ContainsFunc_i0_slices_IndexFunc.T0, keep := fs_Path_i0_slices_ContainsFunc_i0_slices_IndexFunc.K0, exits := [(0, fs_Path_i0_slices_ContainsFunc_i0_slices_IndexFunc.X0_0)], rets := some fs_Path_i0_slices_ContainsFunc_i0_slices_IndexFunc.R0, run := fun {R} K s c v => iter (fs_Path_i0_slices_ContainsFunc_i0_slices_IndexFunc.s0 N s (fun x => K (.exit 0) (fs_Path_i0_slices_ContainsFunc_i0_slices_IndexFunc.X0_0.unpack (fs_Path_i0_slices_ContainsFunc_i0_slices_IndexFunc.K0.base c) x)) (fun x => K .ret (fs_Path_i0_slices_ContainsFunc_i0_slices_IndexFunc.R0.unpack (fs_Path_i0_slices_ContainsFunc_i0_slices_IndexFunc.K0.base c) x)) c) s N v }
def fs_Path_i0_slices_ContainsFunc_i0_slices_IndexFunc.h : HT := (.node .nil (.node (.node .nil (.node (.loop 0 .nil) .nil)) .nil))
noncomputable def fs_Path_i0_slices_ContainsFunc_i0_slices_IndexFunc.is (N : Nat) : List (Nat × Nat × InlSum) := []
noncomputable def fs_Path_i0_slices_ContainsFunc_i0_slices_IndexFunc.C (N : Nat) : Ctx := mkCtx env 9 [(38, fs_Path_1.T N)] (fs_Path_i0_slices_ContainsFunc_i0_slices_IndexFunc.is N) [(0, fs_Path_i0_slices_ContainsFunc_i0_slices_IndexFunc.L0 N)] []
theorem fs_Path_i0_slices_ContainsFunc_i0_slices_IndexFunc.natIs (N : Nat) : NatIs (fs_Path_i0_slices_ContainsFunc_i0_slices_IndexFunc.is N) := trivial
theorem fs_Path_i0_slices_ContainsFunc_i0_slices_IndexFunc.step0 (N : Nat) {R : Type} (K : Ex → St → R) (s : R) (c : fs_Path_i0_slices_ContainsFunc_i0_slices_IndexFunc.K0.ty.den) (again : fs_Path_i0_slices_ContainsFunc_i0_slices_IndexFunc.T0.ty.den → R) (v : fs_Path_i0_slices_ContainsFunc_i0_slices_IndexFunc.T0.ty.den) :
    roundC (fs_Path_i0_slices_ContainsFunc_i0_slices_IndexFunc.C N) (at_ (codeOf Tryd.f64) [true, false, true, false, false]) .nil fs_Path_i0_slices_ContainsFunc_i0_slices_IndexFunc.T0 (fs_Path_i0_slices_ContainsFunc_i0_slices_IndexFunc.L0 N).exits (fs_Path_i0_slices_ContainsFunc_i0_slices_IndexFunc.L0 N).rets K s (fs_Path_i0_slices_ContainsFunc_i0_slices_IndexFunc.K0.base c) again v = fs_Path_i0_slices_ContainsFunc_i0_slices_IndexFunc.s0 N s (fun x => K (.exit 0) (fs_Path_i0_slices_ContainsFunc_i0_slices_IndexFunc.X0_0.unpack (fs_Path_i0_slices_ContainsFunc_i0_slices_IndexFunc.K0.base c) x)) (fun x => K .ret (fs_Path_i0_slices_ContainsFunc_i0_slices_IndexFunc.R0.unpack (fs_Path_i0_slices_ContainsFunc_i0_slices_IndexFunc.K0.base c) x)) c again v := by kernel_rfl
theorem fs_Path_i0_slices_ContainsFunc_i0_slices_IndexFunc.is0 (N : Nat) : LoopIs (fs_Path_i0_slices_ContainsFunc_i0_slices_IndexFunc.C N) 0 (at_ (codeOf Tryd.f64) [true, false, true, false, false]) .nil N := loopIs_of (fs_Path_i0_slices_ContainsFunc_i0_slices_IndexFunc.L0 N) rfl (fun {R} K s c => fs_Path_i0_slices_ContainsFunc_i0_slices_IndexFunc.s0 N s (fun x => K (.exit 0) (fs_Path_i0_slices_ContainsFunc_i0_slices_IndexFunc.X0_0.unpack (fs_Path_i0_slices_ContainsFunc_i0_slices_IndexFunc.K0.base c) x)) (fun x => K .ret (fs_Path_i0_slices_ContainsFunc_i0_slices_IndexFunc.R0.unpack (fs_Path_i0_slices_ContainsFunc_i0_slices_IndexFunc.K0.base c) x)) c) (fun _ _ _ _ => rfl) (fun K s c again v => fs_Path_i0_slices_ContainsFunc_i0_slices_IndexFunc.step0 N K s c again v)
theorem fs_Path_i0_slices_ContainsFunc_i0_slices_IndexFunc.nat0 (N : Nat) : ∀ L, (fs_Path_i0_slices_ContainsFunc_i0_slices_IndexFunc.C N).Λ 0 = some L → NatL L := nat_of_is (fs_Path_i0_slices_ContainsFunc_i0_slices_IndexFunc.is0 N) (mkCtx_nat (fs_Path_i0_slices_ContainsFunc_i0_slices_IndexFunc.natIs N)) trivial
theorem fs_Path_i0_slices_ContainsFunc_i0_slices_IndexFunc.loops : loopsOf (codeOf Tryd.f64) fs_Path_i0_slices_ContainsFunc_i0_slices_IndexFunc.h = [.loop 0 (at_ (codeOf Tryd.f64) [true, false, true, false, false]) .nil] := by kernel_rfl
theorem fs_Path_i0_slices_ContainsFunc_i0_slices_IndexFunc.ok (N : Nat) : CtxOK (fs_Path_i0_slices_ContainsFunc_i0_slices_IndexFunc.C N) := mkCtx_ok env_ok ⟨fs_Path_1.sound N, trivial⟩ trivial (fs_Path_i0_slices_ContainsFunc_i0_slices_IndexFunc.natIs N) ⟨natL_of (id := 0) rfl (fs_Path_i0_slices_ContainsFunc_i0_slices_IndexFunc.nat0 N), trivial⟩ trivial trivial
theorem fs_Path_i0_slices_ContainsFunc_i0_slices_IndexFunc.natI (N : Nat) : NatI (inl (fs_Path_i0_slices_ContainsFunc_i0_slices_IndexFunc.C N) Tryd.f64 fs_Path_i0_slices_ContainsFunc_i0_slices_IndexFunc.h) := inl_nat (C := fs_Path_i0_slices_ContainsFunc_i0_slices_IndexFunc.C N) (h := fs_Path_i0_slices_ContainsFunc_i0_slices_IndexFunc.h) (mkCtx_nat (fs_Path_i0_slices_ContainsFunc_i0_slices_IndexFunc.natIs N)) ⟨trivial, ⟨⟨trivial, ⟨fs_Path_i0_slices_ContainsFunc_i0_slices_IndexFunc.nat0 N, trivial⟩⟩, trivial⟩⟩
theorem fs_Path_i0_slices_ContainsFunc_i0_slices_IndexFunc.sound (N : Nat) : SoundIn Tryd.prog 64 (inl (fs_Path_i0_slices_ContainsFunc_i0_slices_IndexFunc.C N) Tryd.f64 fs_Path_i0_slices_ContainsFunc_i0_slices_IndexFunc.h) := soundIn_of (fs_Path_i0_slices_ContainsFunc_i0_slices_IndexFunc.ok N) mix Tryd.func64 (by kernel_rfl) (by kernel_rfl) (loopsOK_list fs_Path_i0_slices_ContainsFunc_i0_slices_IndexFunc.loops ⟨(fs_Path_i0_slices_ContainsFunc_i0_slices_IndexFunc.is0 N).ok, trivial⟩)
def fs_Path_i0_slices_ContainsFunc.h : HT := .nil
noncomputable def fs_Path_i0_slices_ContainsFunc.is (N : Nat) : List (Nat × Nat × InlSum) := [(64, 7, frozenJ (inl (fs_Path_i0_slices_ContainsFunc_i0_slices_IndexFunc.C N) Tryd.f64 fs_Path_i0_slices_ContainsFunc_i0_slices_IndexFunc.h))]
noncomputable def fs_Path_i0_slices_ContainsFunc.C (N : Nat) : Ctx := mkCtx env 9 [] (fs_Path_i0_slices_ContainsFunc.is N) [] []
theorem fs_Path_i0_slices_ContainsFunc.natIs (N : Nat) : NatIs (fs_Path_i0_slices_ContainsFunc.is N) := ⟨frozenJ_nat (fs_Path_i0_slices_ContainsFunc_i0_slices_IndexFunc.natI N), trivial⟩
theorem fs_Path_i0_slices_ContainsFunc.loops : loopsOf (codeOf Tryd.f37) fs_Path_i0_slices_ContainsFunc.h = [] := by kernel_rfl
theorem fs_Path_i0_slices_ContainsFunc.ok (N : Nat) : CtxOK (fs_Path_i0_slices_ContainsFunc.C N) := mkCtx_ok env_ok trivial ⟨frozenJ_sound (fs_Path_i0_slices_ContainsFunc_i0_slices_IndexFunc.sound N), trivial⟩ (fs_Path_i0_slices_ContainsFunc.natIs N) trivial trivial trivial
theorem fs_Path_i0_slices_ContainsFunc.natI (N : Nat) : NatI (inl (fs_Path_i0_slices_ContainsFunc.C N) Tryd.f37 fs_Path_i0_slices_ContainsFunc.h) := inl_nat (C := fs_Path_i0_slices_ContainsFunc.C N) (h := fs_Path_i0_slices_ContainsFunc.h) (mkCtx_nat (fs_Path_i0_slices_ContainsFunc.natIs N)) trivial
theorem fs_Path_i0_slices_ContainsFunc.sound (N : Nat) : SoundIn Tryd.prog 37 (inl (fs_Path_i0_slices_ContainsFunc.C N) Tryd.f37 fs_Path_i0_slices_ContainsFunc.h) := soundIn_of (fs_Path_i0_slices_ContainsFunc.ok N) mix Tryd.func37 (by kernel_rfl) (by kernel_rfl) (loopsOK_list fs_Path_i0_slices_ContainsFunc.loops trivial)
def fs_Path.h : HT := .nil
noncomputable def fs_Path.is (N : Nat) : List (Nat × Nat × InlSum) := [(37, 11, frozenJ (inl (fs_Path_i0_slices_ContainsFunc.C N) Tryd.f37 fs_Path_i0_slices_ContainsFunc.h))]
noncomputable def fs_Path.C (N : Nat) : Ctx := mkCtx env 0 [(8, strings_Split.T N)] (fs_Path.is N) [] []
theorem fs_Path.natIs (N : Nat) : NatIs (fs_Path.is N) := ⟨frozenJ_nat (fs_Path_i0_slices_ContainsFunc.natI N), trivial⟩
theorem fs_Path.loops : loopsOf (codeOf Tryd.f12) fs_Path.h = [] := by kernel_rfl
theorem fs_Path.ok (N : Nat) : CtxOK (fs_Path.C N) := mkCtx_ok env_ok ⟨strings_Split.sound N, trivial⟩ ⟨frozenJ_sound (fs_Path_i0_slices_ContainsFunc.sound N), trivial⟩ (fs_Path.natIs N) trivial trivial trivial
def fs_Path.T (N : Nat) : TFun := { arg := .str, res := (.int .i64), args := [(false, 1)], parts := [(false, 1)], own := [], f := fun a => fs_Path N a }
theorem fs_Path.eq (N : Nat) (a : (fs_Path.T N).arg.den) : denFun (fs_Path.C N) Tryd.f12 fs_Path.h (fs_Path.T N) a = (fs_Path.T N).f a := by kernel_rfl
theorem fs_Path.sound (N : Nat) : Sound Tryd.prog 12 (fs_Path.T N) := sound_of (fs_Path.ok N) mix Tryd.func12 (by kernel_rfl) (by kernel_rfl) (loopsOK_list fs_Path.loops trivial) (fs_Path.eq N)
def wracklaw2_paths.h : HT := (.node .nil (.node (.test 0 []) .nil))
noncomputable def wracklaw2_paths.is (N : Nat) : List (Nat × Nat × InlSum) := []
noncomputable def wracklaw2_paths.C (N : Nat) : Ctx := mkCtx env 0 [(12, fs_Path.T N), (13, fs_Dir.T N), (15, fs_Name.T N)] (wracklaw2_paths.is N) [] []
theorem wracklaw2_paths.natIs (N : Nat) : NatIs (wracklaw2_paths.is N) := trivial
theorem wracklaw2_paths.loops : loopsOf (codeOf Tryd.f9) wracklaw2_paths.h = [] := by kernel_rfl
theorem wracklaw2_paths.ok (N : Nat) : CtxOK (wracklaw2_paths.C N) := mkCtx_ok env_ok ⟨fs_Path.sound N, fs_Dir.sound N, fs_Name.sound N, trivial⟩ trivial (wracklaw2_paths.natIs N) trivial trivial trivial
def wracklaw2_paths.T (N : Nat) : TFun := { arg := .unit, res := .bool, args := [], parts := [(false, 1)], own := [], f := fun a => wracklaw2_paths N }
theorem wracklaw2_paths.eq (N : Nat) (a : (wracklaw2_paths.T N).arg.den) : denFun (wracklaw2_paths.C N) Tryd.f9 wracklaw2_paths.h (wracklaw2_paths.T N) a = (wracklaw2_paths.T N).f a := by kernel_rfl
theorem wracklaw2_paths.sound (N : Nat) : Sound Tryd.prog 9 (wracklaw2_paths.T N) := sound_of (wracklaw2_paths.ok N) mix Tryd.func9 (by kernel_rfl) (by kernel_rfl) (loopsOK_list wracklaw2_paths.loops trivial) (wracklaw2_paths.eq N)
def wrackref2_Above.h : HT := .nil
noncomputable def wrackref2_Above.is (N : Nat) : List (Nat × Nat × InlSum) := []
noncomputable def wrackref2_Above.C (N : Nat) : Ctx := mkCtx env 0 [(8, strings_Split.T N), (40, strings_Join.T N)] (wrackref2_Above.is N) [] []
theorem wrackref2_Above.natIs (N : Nat) : NatIs (wrackref2_Above.is N) := trivial
theorem wrackref2_Above.loops : loopsOf (codeOf Tryd.f14) wrackref2_Above.h = [] := by kernel_rfl
theorem wrackref2_Above.ok (N : Nat) : CtxOK (wrackref2_Above.C N) := mkCtx_ok env_ok ⟨strings_Split.sound N, strings_Join.sound N, trivial⟩ trivial (wrackref2_Above.natIs N) trivial trivial trivial
def wrackref2_Above.T (N : Nat) : TFun := { arg := .str, res := .str, args := [(false, 1)], parts := [(false, 1)], own := [], f := fun a => wrackref2_Above N a }
theorem wrackref2_Above.eq (N : Nat) (a : (wrackref2_Above.T N).arg.den) : denFun (wrackref2_Above.C N) Tryd.f14 wrackref2_Above.h (wrackref2_Above.T N) a = (wrackref2_Above.T N).f a := by kernel_rfl
theorem wrackref2_Above.sound (N : Nat) : Sound Tryd.prog 14 (wrackref2_Above.T N) := sound_of (wrackref2_Above.ok N) mix Tryd.func14 (by kernel_rfl) (by kernel_rfl) (loopsOK_list wrackref2_Above.loops trivial) (wrackref2_Above.eq N)
def stringslite_HasPrefix.h : HT := (.node .nil (.node (.test 4 []) .nil))
noncomputable def stringslite_HasPrefix.is (N : Nat) : List (Nat × Nat × InlSum) := []
noncomputable def stringslite_HasPrefix.C (N : Nat) : Ctx := mkCtx env 0 [] (stringslite_HasPrefix.is N) [] []
theorem stringslite_HasPrefix.natIs (N : Nat) : NatIs (stringslite_HasPrefix.is N) := trivial
theorem stringslite_HasPrefix.loops : loopsOf (codeOf Tryd.f41) stringslite_HasPrefix.h = [] := by kernel_rfl
theorem stringslite_HasPrefix.ok (N : Nat) : CtxOK (stringslite_HasPrefix.C N) := mkCtx_ok env_ok trivial trivial (stringslite_HasPrefix.natIs N) trivial trivial trivial
def stringslite_HasPrefix.T (N : Nat) : TFun := { arg := (.pair .str .str), res := .bool, args := [(false, 1), (false, 1)], parts := [(false, 1)], own := [], f := fun a => stringslite_HasPrefix N a.1 a.2 }
theorem stringslite_HasPrefix.eq (N : Nat) (a : (stringslite_HasPrefix.T N).arg.den) : denFun (stringslite_HasPrefix.C N) Tryd.f41 stringslite_HasPrefix.h (stringslite_HasPrefix.T N) a = (stringslite_HasPrefix.T N).f a := by kernel_rfl
theorem stringslite_HasPrefix.sound (N : Nat) : Sound Tryd.prog 41 (stringslite_HasPrefix.T N) := sound_of (stringslite_HasPrefix.ok N) mix Tryd.func41 (by kernel_rfl) (by kernel_rfl) (loopsOK_list stringslite_HasPrefix.loops trivial) (stringslite_HasPrefix.eq N)
def strings_HasPrefix.h : HT := .nil
noncomputable def strings_HasPrefix.is (N : Nat) : List (Nat × Nat × InlSum) := []
noncomputable def strings_HasPrefix.C (N : Nat) : Ctx := mkCtx env 0 [(41, stringslite_HasPrefix.T N)] (strings_HasPrefix.is N) [] []
theorem strings_HasPrefix.natIs (N : Nat) : NatIs (strings_HasPrefix.is N) := trivial
theorem strings_HasPrefix.loops : loopsOf (codeOf Tryd.f17) strings_HasPrefix.h = [] := by kernel_rfl
theorem strings_HasPrefix.ok (N : Nat) : CtxOK (strings_HasPrefix.C N) := mkCtx_ok env_ok ⟨stringslite_HasPrefix.sound N, trivial⟩ trivial (strings_HasPrefix.natIs N) trivial trivial trivial
def strings_HasPrefix.T (N : Nat) : TFun := { arg := (.pair .str .str), res := .bool, args := [(false, 1), (false, 1)], parts := [(false, 1)], own := [], f := fun a => strings_HasPrefix N a.1 a.2 }
theorem strings_HasPrefix.eq (N : Nat) (a : (strings_HasPrefix.T N).arg.den) : denFun (strings_HasPrefix.C N) Tryd.f17 strings_HasPrefix.h (strings_HasPrefix.T N) a = (strings_HasPrefix.T N).f a := by kernel_rfl
theorem strings_HasPrefix.sound (N : Nat) : Sound Tryd.prog 17 (strings_HasPrefix.T N) := sound_of (strings_HasPrefix.ok N) mix Tryd.func17 (by kernel_rfl) (by kernel_rfl) (loopsOK_list strings_HasPrefix.loops trivial) (strings_HasPrefix.eq N)
def fs_Under.h : HT := .nil
noncomputable def fs_Under.is (N : Nat) : List (Nat × Nat × InlSum) := []
noncomputable def fs_Under.C (N : Nat) : Ctx := mkCtx env 0 [(17, strings_HasPrefix.T N)] (fs_Under.is N) [] []
theorem fs_Under.natIs (N : Nat) : NatIs (fs_Under.is N) := trivial
theorem fs_Under.loops : loopsOf (codeOf Tryd.f16) fs_Under.h = [] := by kernel_rfl
theorem fs_Under.ok (N : Nat) : CtxOK (fs_Under.C N) := mkCtx_ok env_ok ⟨strings_HasPrefix.sound N, trivial⟩ trivial (fs_Under.natIs N) trivial trivial trivial
def fs_Under.T (N : Nat) : TFun := { arg := (.pair .str .str), res := .bool, args := [(false, 1), (false, 1)], parts := [(false, 1)], own := [], f := fun a => fs_Under N a.1 a.2 }
theorem fs_Under.eq (N : Nat) (a : (fs_Under.T N).arg.den) : denFun (fs_Under.C N) Tryd.f16 fs_Under.h (fs_Under.T N) a = (fs_Under.T N).f a := by kernel_rfl
theorem fs_Under.sound (N : Nat) : Sound Tryd.prog 16 (fs_Under.T N) := sound_of (fs_Under.ok N) mix Tryd.func16 (by kernel_rfl) (by kernel_rfl) (loopsOK_list fs_Under.loops trivial) (fs_Under.eq N)
def wracklaw2_FsPaths.h : HT := (.node .nil (.node .nil (.node (.node .nil (.join { len := 53, live := [(5, .one .hole)], nx := 0, ty := (.pair (.int .i64) .unit) } [0, 1] .nil)) (.node .nil (.node (.test 4 [0, 1, 3, 7, 3, 31, 63, 127, 255, 511, 1023, 511, 4095, 8191, 16383, 32767, 65535, 32767, 262143, 524287, 1048575, 2097151, 4194303, 8388607, 4194303, 4194303, 37748735, 104857599, 255852543, 524287999, 1073741823, 2147483647, 4294967295, 8589934591, 8589934591, 34359738367, 8589934591, 8589934591, 146028888063, 549755813887, 1099511627775, 2199023255551, 4398046511103]) .nil)))))
noncomputable def wracklaw2_FsPaths.is (N : Nat) : List (Nat × Nat × InlSum) := []
noncomputable def wracklaw2_FsPaths.C (N : Nat) : Ctx := mkCtx env 0 [(7, wrackref2_Way.T N), (8, strings_Split.T N), (9, wracklaw2_paths.T N), (10, fs_Named.T N), (11, wrackref2_Word.T N), (12, fs_Path.T N), (13, fs_Dir.T N), (14, wrackref2_Above.T N), (15, fs_Name.T N), (16, fs_Under.T N), (17, strings_HasPrefix.T N)] (wracklaw2_FsPaths.is N) [] []
theorem wracklaw2_FsPaths.natIs (N : Nat) : NatIs (wracklaw2_FsPaths.is N) := trivial
theorem wracklaw2_FsPaths.loops : loopsOf (codeOf Tryd.f3) wracklaw2_FsPaths.h = [] := by kernel_rfl
theorem wracklaw2_FsPaths.ok (N : Nat) : CtxOK (wracklaw2_FsPaths.C N) := mkCtx_ok env_ok ⟨wrackref2_Way.sound N, strings_Split.sound N, wracklaw2_paths.sound N, fs_Named.sound N, wrackref2_Word.sound N, fs_Path.sound N, fs_Dir.sound N, wrackref2_Above.sound N, fs_Name.sound N, fs_Under.sound N, strings_HasPrefix.sound N, trivial⟩ trivial (wracklaw2_FsPaths.natIs N) trivial trivial trivial
def wracklaw2_FsPaths.T (N : Nat) : TFun := { arg := (.pair .str .str), res := .bool, args := [(false, 1), (false, 1)], parts := [(false, 1)], own := [], f := fun a => wracklaw2_FsPaths N a.1 a.2 }
theorem wracklaw2_FsPaths.eq (N : Nat) (a : (wracklaw2_FsPaths.T N).arg.den) : denFun (wracklaw2_FsPaths.C N) Tryd.f3 wracklaw2_FsPaths.h (wracklaw2_FsPaths.T N) a = (wracklaw2_FsPaths.T N).f a := by kernel_rfl
theorem wracklaw2_FsPaths.sound (N : Nat) : Sound Tryd.prog 3 (wracklaw2_FsPaths.T N) := sound_of (wracklaw2_FsPaths.ok N) mix Tryd.func3 (by kernel_rfl) (by kernel_rfl) (loopsOK_list wracklaw2_FsPaths.loops trivial) (wracklaw2_FsPaths.eq N)
end Go.Proofs.YthkpfkjbflcpnaaDoor
