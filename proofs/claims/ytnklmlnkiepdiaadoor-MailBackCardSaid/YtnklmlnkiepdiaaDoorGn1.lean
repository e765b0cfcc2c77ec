import Derived.Test.YtnklmlnkiepdiaaDoorPu
import Derived.Test.YtnklmlnkiepdiaaDoorGn0
import Derived.Test.YtnklmlnkiepdiaaDoorGnLines
import Derived.Test.YtnklmlnkiepdiaaDoorGnShAtoi
import Derived.Test.YtnklmlnkiepdiaaDoorGnShBuild
import Derived.Test.YtnklmlnkiepdiaaDoorGnShStr
set_option linter.unusedVariables false
set_option maxRecDepth 100000
namespace Go.Proofs.YtnklmlnkiepdiaaDoor
open Go Go.Ab
def mail_reader_line.h : HT := (.node .nil (.node (.draw [0, 1, 3, 7, 0, 16, 48, 112, 255, 511, 1023, 2047, 2047, 2047, 4095, 24575, 65535]) .nil))
noncomputable def mail_reader_line.is (N : Nat) : List (Nat × Nat × InlSum) := [(80, 17, cutJ)]
noncomputable def mail_reader_line.C (N : Nat) : Ctx := mkCtx env 1 [] (mail_reader_line.is N) [] []
theorem mail_reader_line.natIs (N : Nat) : NatIs (mail_reader_line.is N) := ⟨cutJ_nat, trivial⟩
theorem mail_reader_line.loops : loopsOf (codeOf Tryd.f57) mail_reader_line.h = [] := by kernel_rfl
theorem mail_reader_line.ok (N : Nat) : CtxOK (mail_reader_line.C N) := mkCtx_ok env_ok trivial ⟨cut_sound, trivial⟩ (mail_reader_line.natIs N) trivial trivial trivial trivial
def mail_reader_line.M (N : Nat) : MFun := { cont := (.pair .str (.int .i64)), arg := .unit, res := (.pair .str .bool), args := [], parts := [(false, 1), (false, 1)], own := [], f := fun a => mail_reader_line N a.1 }
theorem mail_reader_line.eq (N : Nat) (a : (mail_reader_line.M N).cont.den × (mail_reader_line.M N).arg.den) : denM (mail_reader_line.C N) Tryd.f57 mail_reader_line.h (mail_reader_line.M N) a = (mail_reader_line.M N).f a := by kernel_rfl
theorem mail_reader_line.sound (N : Nat) : SoundM Tryd.prog 57 (mail_reader_line.M N) := soundM_of (mail_reader_line.ok N) (Nat.le_refl 1) mix Tryd.func57 (by kernel_rfl) (by kernel_rfl) (loopsOK_list mail_reader_line.loops trivial) (mail_reader_line.eq N)
def stringslite_HasPrefix.h : HT := (.node .nil (.node (.test 4 []) .nil))
noncomputable def stringslite_HasPrefix.is (N : Nat) : List (Nat × Nat × InlSum) := []
noncomputable def stringslite_HasPrefix.C (N : Nat) : Ctx := mkCtx env 0 [] (stringslite_HasPrefix.is N) [] []
theorem stringslite_HasPrefix.natIs (N : Nat) : NatIs (stringslite_HasPrefix.is N) := trivial
theorem stringslite_HasPrefix.loops : loopsOf (codeOf Tryd.f42) stringslite_HasPrefix.h = [] := by kernel_rfl
theorem stringslite_HasPrefix.ok (N : Nat) : CtxOK (stringslite_HasPrefix.C N) := mkCtx_ok env_ok trivial trivial (stringslite_HasPrefix.natIs N) trivial trivial trivial trivial
def stringslite_HasPrefix.T (N : Nat) : TFun := { arg := (.pair .str .str), res := .bool, args := [(false, 1), (false, 1)], parts := [(false, 1)], own := [], f := fun a => stringslite_HasPrefix N a.1 a.2 }
theorem stringslite_HasPrefix.eq (N : Nat) (a : (stringslite_HasPrefix.T N).arg.den) : denFun (stringslite_HasPrefix.C N) Tryd.f42 stringslite_HasPrefix.h (stringslite_HasPrefix.T N) a = (stringslite_HasPrefix.T N).f a := by kernel_rfl
theorem stringslite_HasPrefix.sound (N : Nat) : Sound Tryd.prog 42 (stringslite_HasPrefix.T N) := sound_of (stringslite_HasPrefix.ok N) mix Tryd.func42 (by kernel_rfl) (by kernel_rfl) (loopsOK_list stringslite_HasPrefix.loops trivial) (stringslite_HasPrefix.eq N)
def stringslite_CutPrefix.h : HT := .nil
noncomputable def stringslite_CutPrefix.is (N : Nat) : List (Nat × Nat × InlSum) := []
noncomputable def stringslite_CutPrefix.C (N : Nat) : Ctx := mkCtx env 0 [(42, stringslite_HasPrefix.T N)] (stringslite_CutPrefix.is N) [] []
theorem stringslite_CutPrefix.natIs (N : Nat) : NatIs (stringslite_CutPrefix.is N) := trivial
theorem stringslite_CutPrefix.loops : loopsOf (codeOf Tryd.f81) stringslite_CutPrefix.h = [] := by kernel_rfl
theorem stringslite_CutPrefix.ok (N : Nat) : CtxOK (stringslite_CutPrefix.C N) := mkCtx_ok env_ok ⟨stringslite_HasPrefix.sound N, trivial⟩ trivial (stringslite_CutPrefix.natIs N) trivial trivial trivial trivial
def stringslite_CutPrefix.T (N : Nat) : TFun := { arg := (.pair .str .str), res := (.pair .str .bool), args := [(false, 1), (false, 1)], parts := [(false, 1), (false, 1)], own := [], f := fun a => stringslite_CutPrefix N a.1 a.2 }
theorem stringslite_CutPrefix.eq (N : Nat) (a : (stringslite_CutPrefix.T N).arg.den) : denFun (stringslite_CutPrefix.C N) Tryd.f81 stringslite_CutPrefix.h (stringslite_CutPrefix.T N) a = (stringslite_CutPrefix.T N).f a := by kernel_rfl
theorem stringslite_CutPrefix.sound (N : Nat) : Sound Tryd.prog 81 (stringslite_CutPrefix.T N) := sound_of (stringslite_CutPrefix.ok N) mix Tryd.func81 (by kernel_rfl) (by kernel_rfl) (loopsOK_list stringslite_CutPrefix.loops trivial) (stringslite_CutPrefix.eq N)
def strings_CutPrefix.h : HT := .nil
noncomputable def strings_CutPrefix.is (N : Nat) : List (Nat × Nat × InlSum) := []
noncomputable def strings_CutPrefix.C (N : Nat) : Ctx := mkCtx env 0 [(81, stringslite_CutPrefix.T N)] (strings_CutPrefix.is N) [] []
theorem strings_CutPrefix.natIs (N : Nat) : NatIs (strings_CutPrefix.is N) := trivial
theorem strings_CutPrefix.loops : loopsOf (codeOf Tryd.f58) strings_CutPrefix.h = [] := by kernel_rfl
theorem strings_CutPrefix.ok (N : Nat) : CtxOK (strings_CutPrefix.C N) := mkCtx_ok env_ok ⟨stringslite_CutPrefix.sound N, trivial⟩ trivial (strings_CutPrefix.natIs N) trivial trivial trivial trivial
def strings_CutPrefix.T (N : Nat) : TFun := { arg := (.pair .str .str), res := (.pair .str .bool), args := [(false, 1), (false, 1)], parts := [(false, 1), (false, 1)], own := [], f := fun a => strings_CutPrefix N a.1 a.2 }
theorem strings_CutPrefix.eq (N : Nat) (a : (strings_CutPrefix.T N).arg.den) : denFun (strings_CutPrefix.C N) Tryd.f58 strings_CutPrefix.h (strings_CutPrefix.T N) a = (strings_CutPrefix.T N).f a := by kernel_rfl
theorem strings_CutPrefix.sound (N : Nat) : Sound Tryd.prog 58 (strings_CutPrefix.T N) := sound_of (strings_CutPrefix.ok N) mix Tryd.func58 (by kernel_rfl) (by kernel_rfl) (loopsOK_list strings_CutPrefix.loops trivial) (strings_CutPrefix.eq N)
def mail_reader_word.h : HT := (.node .nil (.node .nil (.node .nil (.node .nil (.node (.node (.test 31 []) .nil) .nil)))))
noncomputable def mail_reader_word.is (N : Nat) : List (Nat × Nat × InlSum) := []
noncomputable def mail_reader_word.C (N : Nat) : Ctx := mkCtx env 1 [(58, strings_CutPrefix.T N)] (mail_reader_word.is N) [] [] [(57, mail_reader_line.M N)]
theorem mail_reader_word.natIs (N : Nat) : NatIs (mail_reader_word.is N) := trivial
theorem mail_reader_word.loops : loopsOf (codeOf Tryd.f55) mail_reader_word.h = [] := by kernel_rfl
theorem mail_reader_word.ok (N : Nat) : CtxOK (mail_reader_word.C N) := mkCtx_ok env_ok ⟨strings_CutPrefix.sound N, trivial⟩ trivial (mail_reader_word.natIs N) trivial trivial ⟨mail_reader_line.sound N, trivial⟩ trivial
def mail_reader_word.M (N : Nat) : MFun := { cont := (.pair .str (.int .i64)), arg := .str, res := (.pair .str .bool), args := [(false, 1)], parts := [(false, 1), (false, 1)], own := [], f := fun a => mail_reader_word N a.1 a.2 }
theorem mail_reader_word.eq (N : Nat) (a : (mail_reader_word.M N).cont.den × (mail_reader_word.M N).arg.den) : denM (mail_reader_word.C N) Tryd.f55 mail_reader_word.h (mail_reader_word.M N) a = (mail_reader_word.M N).f a := by kernel_rfl
theorem mail_reader_word.sound (N : Nat) : SoundM Tryd.prog 55 (mail_reader_word.M N) := soundM_of (mail_reader_word.ok N) (Nat.le_refl 1) mix Tryd.func55 (by kernel_rfl) (by kernel_rfl) (loopsOK_list mail_reader_word.loops trivial) (mail_reader_word.eq N)
def strings_Split.h : HT := .nil
noncomputable def strings_Split.is (N : Nat) : List (Nat × Nat × InlSum) := []
noncomputable def strings_Split.C (N : Nat) : Ctx := mkCtx env 0 [(49, strings_genSplit.T N)] (strings_Split.is N) [] []
theorem strings_Split.natIs (N : Nat) : NatIs (strings_Split.is N) := trivial
theorem strings_Split.loops : loopsOf (codeOf Tryd.f37) strings_Split.h = [] := by kernel_rfl
theorem strings_Split.ok (N : Nat) : CtxOK (strings_Split.C N) := mkCtx_ok env_ok ⟨strings_genSplit.sound N, trivial⟩ trivial (strings_Split.natIs N) trivial trivial trivial trivial
def strings_Split.T (N : Nat) : TFun := { arg := (.pair .str .str), res := (.slice .str), args := [(false, 1), (false, 1)], parts := [(false, 1)], own := [0], f := fun a => strings_Split N a.1 a.2 }
theorem strings_Split.eq (N : Nat) (a : (strings_Split.T N).arg.den) : denFun (strings_Split.C N) Tryd.f37 strings_Split.h (strings_Split.T N) a = (strings_Split.T N).f a := by kernel_rfl
theorem strings_Split.sound (N : Nat) : Sound Tryd.prog 37 (strings_Split.T N) := sound_of (strings_Split.ok N) mix Tryd.func37 (by kernel_rfl) (by kernel_rfl) (loopsOK_list strings_Split.loops trivial) (strings_Split.eq N)
def stringslite_TrimPrefix.h : HT := .nil
noncomputable def stringslite_TrimPrefix.is (N : Nat) : List (Nat × Nat × InlSum) := []
noncomputable def stringslite_TrimPrefix.C (N : Nat) : Ctx := mkCtx env 0 [(42, stringslite_HasPrefix.T N)] (stringslite_TrimPrefix.is N) [] []
theorem stringslite_TrimPrefix.natIs (N : Nat) : NatIs (stringslite_TrimPrefix.is N) := trivial
theorem stringslite_TrimPrefix.loops : loopsOf (codeOf Tryd.f82) stringslite_TrimPrefix.h = [] := by kernel_rfl
theorem stringslite_TrimPrefix.ok (N : Nat) : CtxOK (stringslite_TrimPrefix.C N) := mkCtx_ok env_ok ⟨stringslite_HasPrefix.sound N, trivial⟩ trivial (stringslite_TrimPrefix.natIs N) trivial trivial trivial trivial
def stringslite_TrimPrefix.T (N : Nat) : TFun := { arg := (.pair .str .str), res := .str, args := [(false, 1), (false, 1)], parts := [(false, 1)], own := [], f := fun a => stringslite_TrimPrefix N a.1 a.2 }
theorem stringslite_TrimPrefix.eq (N : Nat) (a : (stringslite_TrimPrefix.T N).arg.den) : denFun (stringslite_TrimPrefix.C N) Tryd.f82 stringslite_TrimPrefix.h (stringslite_TrimPrefix.T N) a = (stringslite_TrimPrefix.T N).f a := by kernel_rfl
theorem stringslite_TrimPrefix.sound (N : Nat) : Sound Tryd.prog 82 (stringslite_TrimPrefix.T N) := sound_of (stringslite_TrimPrefix.ok N) mix Tryd.func82 (by kernel_rfl) (by kernel_rfl) (loopsOK_list stringslite_TrimPrefix.loops trivial) (stringslite_TrimPrefix.eq N)
def strings_TrimPrefix.h : HT := .nil
noncomputable def strings_TrimPrefix.is (N : Nat) : List (Nat × Nat × InlSum) := []
noncomputable def strings_TrimPrefix.C (N : Nat) : Ctx := mkCtx env 0 [(82, stringslite_TrimPrefix.T N)] (strings_TrimPrefix.is N) [] []
theorem strings_TrimPrefix.natIs (N : Nat) : NatIs (strings_TrimPrefix.is N) := trivial
theorem strings_TrimPrefix.loops : loopsOf (codeOf Tryd.f59) strings_TrimPrefix.h = [] := by kernel_rfl
theorem strings_TrimPrefix.ok (N : Nat) : CtxOK (strings_TrimPrefix.C N) := mkCtx_ok env_ok ⟨stringslite_TrimPrefix.sound N, trivial⟩ trivial (strings_TrimPrefix.natIs N) trivial trivial trivial trivial
def strings_TrimPrefix.T (N : Nat) : TFun := { arg := (.pair .str .str), res := .str, args := [(false, 1), (false, 1)], parts := [(false, 1)], own := [], f := fun a => strings_TrimPrefix N a.1 a.2 }
theorem strings_TrimPrefix.eq (N : Nat) (a : (strings_TrimPrefix.T N).arg.den) : denFun (strings_TrimPrefix.C N) Tryd.f59 strings_TrimPrefix.h (strings_TrimPrefix.T N) a = (strings_TrimPrefix.T N).f a := by kernel_rfl
theorem strings_TrimPrefix.sound (N : Nat) : Sound Tryd.prog 59 (strings_TrimPrefix.T N) := sound_of (strings_TrimPrefix.ok N) mix Tryd.func59 (by kernel_rfl) (by kernel_rfl) (loopsOK_list strings_TrimPrefix.loops trivial) (strings_TrimPrefix.eq N)
def mail_reader_mail_i2_strings_Builder_WriteString.h : HT := .nil
noncomputable def mail_reader_mail_i2_strings_Builder_WriteString.is (N : Nat) : List (Nat × Nat × InlSum) := [(43, 7, (copyJ 63))]
noncomputable def mail_reader_mail_i2_strings_Builder_WriteString.C (N : Nat) : Ctx := mkCtx env 13 [] (mail_reader_mail_i2_strings_Builder_WriteString.is N) [] []
theorem mail_reader_mail_i2_strings_Builder_WriteString.natIs (N : Nat) : NatIs (mail_reader_mail_i2_strings_Builder_WriteString.is N) := ⟨copyJ_nat _, trivial⟩
theorem mail_reader_mail_i2_strings_Builder_WriteString.loops : loopsOf (codeOf Tryd.f29) mail_reader_mail_i2_strings_Builder_WriteString.h = [] := by kernel_rfl
theorem mail_reader_mail_i2_strings_Builder_WriteString.ok (N : Nat) : CtxOK (mail_reader_mail_i2_strings_Builder_WriteString.C N) := mkCtx_ok env_ok trivial ⟨copy_sound, trivial⟩ (mail_reader_mail_i2_strings_Builder_WriteString.natIs N) trivial trivial trivial trivial
theorem mail_reader_mail_i2_strings_Builder_WriteString.natI (N : Nat) : NatI (inl (mail_reader_mail_i2_strings_Builder_WriteString.C N) Tryd.f29 mail_reader_mail_i2_strings_Builder_WriteString.h) := inl_nat (C := mail_reader_mail_i2_strings_Builder_WriteString.C N) (h := mail_reader_mail_i2_strings_Builder_WriteString.h) (mkCtx_nat (mail_reader_mail_i2_strings_Builder_WriteString.natIs N)) trivial
theorem mail_reader_mail_i2_strings_Builder_WriteString.sound (N : Nat) : SoundIn Tryd.prog 29 (inl (mail_reader_mail_i2_strings_Builder_WriteString.C N) Tryd.f29 mail_reader_mail_i2_strings_Builder_WriteString.h) := soundIn_of (mail_reader_mail_i2_strings_Builder_WriteString.ok N) mix Tryd.func29 (by kernel_rfl) (by kernel_rfl) (loopsOK_list mail_reader_mail_i2_strings_Builder_WriteString.loops trivial)
def mail_reader_mail.T0 : Tmpl := { len := 126, live := [(0, .one (.ptr 0 0)), (2, .one (.ptr 1 0)), (4, .one (.ptr 2 0)), (10, .one (.ptr 3 0))], vars := [(1, [.hole, .hole, .hole, .hole, .hole, .hole, .hole]), (2, [.hole, .hole, .hole, .hole, .hole, .hole, .hole]), (3, [.self 3 63, .own 4])], abs := [(0, .var [.hole, .hole])], nx := 5, ty := (.pair .str (.pair (.int .i64) (.pair .str (.pair (.int .i64) (.pair .str (.pair .str (.pair .bool (.pair .str (.pair .str (.pair .str (.pair (.int .i64) (.pair .str (.pair .str (.pair .bool (.pair .str (.pair .str (.pair (.slice (.int .u8)) .unit))))))))))))))))) }
def mail_reader_mail.K0 : Tmpl := { len := 126, live := [], nx := 0, ty := .unit }
def mail_reader_mail.R0 : Tmpl := { len := 126, live := [(2, .one (.ptr 1 0)), (3, .one .hole)], vars := [(1, [.hole, .hole, .hole, .hole, .hole, .hole, .hole])], abs := [(0, .var [.hole, .hole])], nx := 2, ty := (.pair .str (.pair (.int .i64) (.pair .bool (.pair .str (.pair (.int .i64) (.pair .str (.pair .str (.pair .bool (.pair .str (.pair .str .unit)))))))))) }
def mail_reader_mail.L0 (N : Nat) : LoopSum := { T := mail_reader_mail.T0, keep := mail_reader_mail.K0, exits := [], rets := some mail_reader_mail.R0, run := fun {R} K s c v => iter (mail_reader_mail.s0 N s (fun x => K .ret (mail_reader_mail.R0.unpack (mail_reader_mail.K0.base c) x)) c) s N v }
def mail_reader_mail.h : HT := (.node .nil (.node .nil (.node .nil (.node .nil (.node (.node (.test 28 []) .nil) (.node .nil (.node (.node (.test 46 [0, 1, 3, 7, 15, 7, 39, 103, 255, 511]) .nil) (.node (.pair [0, 1, 3, 0, 8, 24, 0, 7, 135, 447, 959, 2047, 4095]) (.node (.node .nil (.node (.test 69 []) .nil)) (.node .nil (.node .nil (.node .nil (.node (.loop 0 (.node (.node .nil (.node .nil (.node (.node .nil (.node (.node .nil (.node (.pair [0, 0, 2, 6, 7, 31]) .nil)) .nil)) (.node (.node .nil (.node (.test 120 []) .nil)) .nil)))) .nil)) .nil)))))))))))))
noncomputable def mail_reader_mail.is (N : Nat) : List (Nat × Nat × InlSum) := [(56, 34, atoiJ), (34, 100, stringJ), (29, 125, inl (mail_reader_mail_i2_strings_Builder_WriteString.C N) Tryd.f29 mail_reader_mail_i2_strings_Builder_WriteString.h)]
noncomputable def mail_reader_mail.C (N : Nat) : Ctx := mkCtx env 1 [(30, strconv_Itoa.T N), (37, strings_Split.T N), (38, mail_one.T N), (58, strings_CutPrefix.T N), (59, strings_TrimPrefix.T N)] (mail_reader_mail.is N) [(0, mail_reader_mail.L0 N)] [] [(55, mail_reader_word.M N), (57, mail_reader_line.M N)]
theorem mail_reader_mail.natIs (N : Nat) : NatIs (mail_reader_mail.is N) := ⟨atoiJ_nat, stringJ_nat, mail_reader_mail_i2_strings_Builder_WriteString.natI N, trivial⟩
theorem mail_reader_mail.step0 (N : Nat) {R : Type} (K : Ex → St → R) (s : R) (c : mail_reader_mail.K0.ty.den) (again : mail_reader_mail.T0.ty.den → R) (v : mail_reader_mail.T0.ty.den) :
    roundC (mail_reader_mail.C N) (at_ (codeOf Tryd.f41) [true, true, true, true, true, true, true, true, true, true, true, true, false, false]) (.node (.node .nil (.node .nil (.node (.node .nil (.node (.node .nil (.node (.pair [0, 0, 2, 6, 7, 31]) .nil)) .nil)) (.node (.node .nil (.node (.test 120 []) .nil)) .nil)))) .nil) mail_reader_mail.T0 (mail_reader_mail.L0 N).exits (mail_reader_mail.L0 N).rets K s (mail_reader_mail.K0.base c) again v = mail_reader_mail.s0 N s (fun x => K .ret (mail_reader_mail.R0.unpack (mail_reader_mail.K0.base c) x)) c again v := by kernel_rfl
theorem mail_reader_mail.is0 (N : Nat) : LoopIs (mail_reader_mail.C N) 0 (at_ (codeOf Tryd.f41) [true, true, true, true, true, true, true, true, true, true, true, true, false, false]) (.node (.node .nil (.node .nil (.node (.node .nil (.node (.node .nil (.node (.pair [0, 0, 2, 6, 7, 31]) .nil)) .nil)) (.node (.node .nil (.node (.test 120 []) .nil)) .nil)))) .nil) N := loopIs_of (mail_reader_mail.L0 N) rfl (fun {R} K s c => mail_reader_mail.s0 N s (fun x => K .ret (mail_reader_mail.R0.unpack (mail_reader_mail.K0.base c) x)) c) (fun _ _ _ _ => rfl) (fun K s c again v => mail_reader_mail.step0 N K s c again v)
theorem mail_reader_mail.nat0 (N : Nat) : ∀ L, (mail_reader_mail.C N).Λ 0 = some L → NatL L := nat_of_is (mail_reader_mail.is0 N) (mkCtx_nat (mail_reader_mail.natIs N)) ⟨⟨trivial, ⟨trivial, ⟨⟨trivial, ⟨⟨trivial, ⟨trivial, trivial⟩⟩, trivial⟩⟩, ⟨⟨trivial, ⟨trivial, trivial⟩⟩, trivial⟩⟩⟩⟩, trivial⟩
theorem mail_reader_mail.loops : loopsOf (codeOf Tryd.f41) mail_reader_mail.h = [.loop 0 (at_ (codeOf Tryd.f41) [true, true, true, true, true, true, true, true, true, true, true, true, false, false]) (.node (.node .nil (.node .nil (.node (.node .nil (.node (.node .nil (.node (.pair [0, 0, 2, 6, 7, 31]) .nil)) .nil)) (.node (.node .nil (.node (.test 120 []) .nil)) .nil)))) .nil)] := by kernel_rfl
theorem mail_reader_mail.ok (N : Nat) : CtxOK (mail_reader_mail.C N) := mkCtx_ok env_ok ⟨strconv_Itoa.sound N, strings_Split.sound N, mail_one.sound N, strings_CutPrefix.sound N, strings_TrimPrefix.sound N, trivial⟩ ⟨atoi_sound, string_sound, mail_reader_mail_i2_strings_Builder_WriteString.sound N, trivial⟩ (mail_reader_mail.natIs N) ⟨natL_of (id := 0) rfl (mail_reader_mail.nat0 N), trivial⟩ trivial ⟨mail_reader_word.sound N, mail_reader_line.sound N, trivial⟩ trivial
def mail_reader_mail.M (N : Nat) : MFun := { cont := (.pair .str (.int .i64)), arg := .unit, res := (.pair (.pair .str (.pair (.int .i64) (.pair .str (.pair .str (.pair .bool (.pair .str .str)))))) .bool), args := [], parts := [(true, 7), (false, 1)], own := [], f := fun a => mail_reader_mail N a.1 }
theorem mail_reader_mail.eq (N : Nat) (a : (mail_reader_mail.M N).cont.den × (mail_reader_mail.M N).arg.den) : denM (mail_reader_mail.C N) Tryd.f41 mail_reader_mail.h (mail_reader_mail.M N) a = (mail_reader_mail.M N).f a := by kernel_rfl
theorem mail_reader_mail.sound (N : Nat) : SoundM Tryd.prog 41 (mail_reader_mail.M N) := soundM_of (mail_reader_mail.ok N) (Nat.le_refl 1) mix Tryd.func41 (by kernel_rfl) (by kernel_rfl) (loopsOK_list mail_reader_mail.loops ⟨(mail_reader_mail.is0 N).ok, trivial⟩) (mail_reader_mail.eq N)
def mail_Read.T0 : Tmpl := { len := 55, live := [(5, .one (.ptr 0 0)), (6, .one (.own 1))], vars := [(0, [.hole, .hole])], nx := 2, ty := (.pair (.slice (.pair .str (.pair (.int .i64) (.pair .str (.pair .str (.pair .bool (.pair .str .str))))))) (.pair .str (.pair (.int .i64) .unit))) }
def mail_Read.K0 : Tmpl := { len := 55, live := [(0, .one .hole)], nx := 0, ty := (.pair .str .unit) }
def mail_Read.X0_0 : Tmpl := { len := 55, live := [(6, .one (.own 0))], nx := 1, ty := (.pair (.slice (.pair .str (.pair (.int .i64) (.pair .str (.pair .str (.pair .bool (.pair .str .str))))))) .unit) }
def mail_Read.R0 : Tmpl := { len := 55, live := [(2, .one (.own 0)), (3, .one .hole), (4, .one .hole)], nx := 1, ty := (.pair (.slice (.pair .str (.pair (.int .i64) (.pair .str (.pair .str (.pair .bool (.pair .str .str))))))) (.pair (.int .i64) (.pair (.int .i64) .unit))) }
def mail_Read.L0 (N : Nat) : LoopSum := { T := mail_Read.T0, keep := mail_Read.K0, exits := [(0, mail_Read.X0_0)], rets := some mail_Read.R0, run := fun {R} K s c v => iter (mail_Read.s0 N s (fun x => K (.exit 0) (mail_Read.X0_0.unpack (mail_Read.K0.base c) x)) (fun x => K .ret (mail_Read.R0.unpack (mail_Read.K0.base c) x)) c) s N v }
def mail_Read.h : HT := (.node .nil (.node .nil (.node .nil (.node .nil (.node (.node (.loop 0 (.node .nil (.node (.node .nil (.node .nil (.node (.node (.pair [0, 1, 3, 3, 11, 3, 35, 127, 3, 259, 1023, 2047, 4095, 8191, 16383]) .nil) .nil))) .nil))) .nil) .nil)))))
noncomputable def mail_Read.is (N : Nat) : List (Nat × Nat × InlSum) := []
noncomputable def mail_Read.C (N : Nat) : Ctx := mkCtx env 0 [(17, mail_Check.T N)] (mail_Read.is N) [(0, mail_Read.L0 N)] [] [(41, mail_reader_mail.M N)]
theorem mail_Read.natIs (N : Nat) : NatIs (mail_Read.is N) := trivial
theorem mail_Read.step0 (N : Nat) {R : Type} (K : Ex → St → R) (s : R) (c : mail_Read.K0.ty.den) (again : mail_Read.T0.ty.den → R) (v : mail_Read.T0.ty.den) :
    roundC (mail_Read.C N) (at_ (codeOf Tryd.f19) [true, true, true, true, false, false, false]) (.node .nil (.node (.node .nil (.node .nil (.node (.node (.pair [0, 1, 3, 3, 11, 3, 35, 127, 3, 259, 1023, 2047, 4095, 8191, 16383]) .nil) .nil))) .nil)) mail_Read.T0 (mail_Read.L0 N).exits (mail_Read.L0 N).rets K s (mail_Read.K0.base c) again v = mail_Read.s0 N s (fun x => K (.exit 0) (mail_Read.X0_0.unpack (mail_Read.K0.base c) x)) (fun x => K .ret (mail_Read.R0.unpack (mail_Read.K0.base c) x)) c again v := by kernel_rfl
theorem mail_Read.is0 (N : Nat) : LoopIs (mail_Read.C N) 0 (at_ (codeOf Tryd.f19) [true, true, true, true, false, false, false]) (.node .nil (.node (.node .nil (.node .nil (.node (.node (.pair [0, 1, 3, 3, 11, 3, 35, 127, 3, 259, 1023, 2047, 4095, 8191, 16383]) .nil) .nil))) .nil)) N := loopIs_of (mail_Read.L0 N) rfl (fun {R} K s c => mail_Read.s0 N s (fun x => K (.exit 0) (mail_Read.X0_0.unpack (mail_Read.K0.base c) x)) (fun x => K .ret (mail_Read.R0.unpack (mail_Read.K0.base c) x)) c) (fun _ _ _ _ => rfl) (fun K s c again v => mail_Read.step0 N K s c again v)
theorem mail_Read.nat0 (N : Nat) : ∀ L, (mail_Read.C N).Λ 0 = some L → NatL L := nat_of_is (mail_Read.is0 N) (mkCtx_nat (mail_Read.natIs N)) ⟨trivial, ⟨⟨trivial, ⟨trivial, ⟨⟨trivial, trivial⟩, trivial⟩⟩⟩, trivial⟩⟩
theorem mail_Read.loops : loopsOf (codeOf Tryd.f19) mail_Read.h = [.loop 0 (at_ (codeOf Tryd.f19) [true, true, true, true, false, false, false]) (.node .nil (.node (.node .nil (.node .nil (.node (.node (.pair [0, 1, 3, 3, 11, 3, 35, 127, 3, 259, 1023, 2047, 4095, 8191, 16383]) .nil) .nil))) .nil))] := by kernel_rfl
theorem mail_Read.ok (N : Nat) : CtxOK (mail_Read.C N) := mkCtx_ok env_ok ⟨mail_Check.sound N, trivial⟩ trivial (mail_Read.natIs N) ⟨natL_of (id := 0) rfl (mail_Read.nat0 N), trivial⟩ trivial ⟨mail_reader_mail.sound N, trivial⟩ trivial
def mail_Read.T (N : Nat) : TFun := { arg := .str, res := (.pair (.slice (.pair .str (.pair (.int .i64) (.pair .str (.pair .str (.pair .bool (.pair .str .str))))))) (.pair (.int .i64) (.int .i64))), args := [(false, 1)], parts := [(false, 1), (false, 1), (false, 1)], own := [0], f := fun a => mail_Read N a }
theorem mail_Read.eq (N : Nat) (a : (mail_Read.T N).arg.den) : denFun (mail_Read.C N) Tryd.f19 mail_Read.h (mail_Read.T N) a = (mail_Read.T N).f a := by kernel_rfl
theorem mail_Read.sound (N : Nat) : Sound Tryd.prog 19 (mail_Read.T N) := sound_of (mail_Read.ok N) mix Tryd.func19 (by kernel_rfl) (by kernel_rfl) (loopsOK_list mail_Read.loops ⟨(mail_Read.is0 N).ok, trivial⟩) (mail_Read.eq N)
def wrackkeep2_mails.h : HT := (.node .nil (.node .nil (.node (.test 0 []) .nil)))
noncomputable def wrackkeep2_mails.is (N : Nat) : List (Nat × Nat × InlSum) := []
noncomputable def wrackkeep2_mails.C (N : Nat) : Ctx := mkCtx env 0 [(14, mail_Print.T N)] (wrackkeep2_mails.is N) [] []
theorem wrackkeep2_mails.natIs (N : Nat) : NatIs (wrackkeep2_mails.is N) := trivial
theorem wrackkeep2_mails.loops : loopsOf (codeOf Tryd.f11) wrackkeep2_mails.h = [] := by kernel_rfl
theorem wrackkeep2_mails.ok (N : Nat) : CtxOK (wrackkeep2_mails.C N) := mkCtx_ok env_ok ⟨mail_Print.sound N, trivial⟩ trivial (wrackkeep2_mails.natIs N) trivial trivial trivial trivial
def wrackkeep2_mails.T (N : Nat) : TFun := { arg := .unit, res := .bool, args := [], parts := [(false, 1)], own := [], f := fun a => wrackkeep2_mails N }
theorem wrackkeep2_mails.eq (N : Nat) (a : (wrackkeep2_mails.T N).arg.den) : denFun (wrackkeep2_mails.C N) Tryd.f11 wrackkeep2_mails.h (wrackkeep2_mails.T N) a = (wrackkeep2_mails.T N).f a := by kernel_rfl
theorem wrackkeep2_mails.sound (N : Nat) : Sound Tryd.prog 11 (wrackkeep2_mails.T N) := sound_of (wrackkeep2_mails.ok N) mix Tryd.func11 (by kernel_rfl) (by kernel_rfl) (loopsOK_list wrackkeep2_mails.loops trivial) (wrackkeep2_mails.eq N)
def slices_Equal_mail_Mail.T0 : Tmpl := { len := 26, live := [(13, .one .hole)], nx := 0, ty := (.pair (.int .i64) .unit) }
def slices_Equal_mail_Mail.K0 : Tmpl := { len := 26, live := [(0, .one .hole), (1, .one .hole), (12, .one .hole)], nx := 0, ty := (.pair (.slice (.pair .str (.pair (.int .i64) (.pair .str (.pair .str (.pair .bool (.pair .str .str))))))) (.pair (.slice (.pair .str (.pair (.int .i64) (.pair .str (.pair .str (.pair .bool (.pair .str .str))))))) (.pair (.int .i64) .unit))) }
def slices_Equal_mail_Mail.X0_0 : Tmpl := { len := 26, live := [], nx := 0, ty := .unit }
def slices_Equal_mail_Mail.R0 : Tmpl := { len := 26, live := [(4, .one .hole)], nx := 0, ty := (.pair .bool .unit) }
def slices_Equal_mail_Mail.L0 (N : Nat) : LoopSum := { T := slices_Equal_mail_Mail.T0, keep := slices_Equal_mail_Mail.K0, exits := [(0, slices_Equal_mail_Mail.X0_0)], rets := some slices_Equal_mail_Mail.R0, run := fun {R} K s c v => iter (slices_Equal_mail_Mail.s0 N s (fun x => K (.exit 0) (slices_Equal_mail_Mail.X0_0.unpack (slices_Equal_mail_Mail.K0.base c) x)) (fun x => K .ret (slices_Equal_mail_Mail.R0.unpack (slices_Equal_mail_Mail.K0.base c) x)) c) s N v }
def slices_Equal_mail_Mail.h : HT := (.node .nil (.node .nil (.node (.node .nil (.node (.loop 0 (.node .nil (.node .nil (.node (.node (.node .nil (.node (.draw [0, 0, 3, 7, 0, 0, 48, 112, 255]) .nil)) .nil) .nil)))) .nil)) .nil)))
noncomputable def slices_Equal_mail_Mail.is (N : Nat) : List (Nat × Nat × InlSum) := []
noncomputable def slices_Equal_mail_Mail.C (N : Nat) : Ctx := mkCtx env 0 [] (slices_Equal_mail_Mail.is N) [(0, slices_Equal_mail_Mail.L0 N)] []
theorem slices_Equal_mail_Mail.natIs (N : Nat) : NatIs (slices_Equal_mail_Mail.is N) := trivial
theorem slices_Equal_mail_Mail.step0 (N : Nat) {R : Type} (K : Ex → St → R) (s : R) (c : slices_Equal_mail_Mail.K0.ty.den) (again : slices_Equal_mail_Mail.T0.ty.den → R) (v : slices_Equal_mail_Mail.T0.ty.den) :
    roundC (slices_Equal_mail_Mail.C N) (at_ (codeOf Tryd.f20) [true, true, false, true, false, false]) (.node .nil (.node .nil (.node (.node (.node .nil (.node (.draw [0, 0, 3, 7, 0, 0, 48, 112, 255]) .nil)) .nil) .nil))) slices_Equal_mail_Mail.T0 (slices_Equal_mail_Mail.L0 N).exits (slices_Equal_mail_Mail.L0 N).rets K s (slices_Equal_mail_Mail.K0.base c) again v = slices_Equal_mail_Mail.s0 N s (fun x => K (.exit 0) (slices_Equal_mail_Mail.X0_0.unpack (slices_Equal_mail_Mail.K0.base c) x)) (fun x => K .ret (slices_Equal_mail_Mail.R0.unpack (slices_Equal_mail_Mail.K0.base c) x)) c again v := by kernel_rfl
theorem slices_Equal_mail_Mail.is0 (N : Nat) : LoopIs (slices_Equal_mail_Mail.C N) 0 (at_ (codeOf Tryd.f20) [true, true, false, true, false, false]) (.node .nil (.node .nil (.node (.node (.node .nil (.node (.draw [0, 0, 3, 7, 0, 0, 48, 112, 255]) .nil)) .nil) .nil))) N := loopIs_of (slices_Equal_mail_Mail.L0 N) rfl (fun {R} K s c => slices_Equal_mail_Mail.s0 N s (fun x => K (.exit 0) (slices_Equal_mail_Mail.X0_0.unpack (slices_Equal_mail_Mail.K0.base c) x)) (fun x => K .ret (slices_Equal_mail_Mail.R0.unpack (slices_Equal_mail_Mail.K0.base c) x)) c) (fun _ _ _ _ => rfl) (fun K s c again v => slices_Equal_mail_Mail.step0 N K s c again v)
theorem slices_Equal_mail_Mail.nat0 (N : Nat) : ∀ L, (slices_Equal_mail_Mail.C N).Λ 0 = some L → NatL L := nat_of_is (slices_Equal_mail_Mail.is0 N) (mkCtx_nat (slices_Equal_mail_Mail.natIs N)) ⟨trivial, ⟨trivial, ⟨⟨⟨trivial, ⟨trivial, trivial⟩⟩, trivial⟩, trivial⟩⟩⟩
theorem slices_Equal_mail_Mail.loops : loopsOf (codeOf Tryd.f20) slices_Equal_mail_Mail.h = [.loop 0 (at_ (codeOf Tryd.f20) [true, true, false, true, false, false]) (.node .nil (.node .nil (.node (.node (.node .nil (.node (.draw [0, 0, 3, 7, 0, 0, 48, 112, 255]) .nil)) .nil) .nil)))] := by kernel_rfl
theorem slices_Equal_mail_Mail.ok (N : Nat) : CtxOK (slices_Equal_mail_Mail.C N) := mkCtx_ok env_ok trivial trivial (slices_Equal_mail_Mail.natIs N) ⟨natL_of (id := 0) rfl (slices_Equal_mail_Mail.nat0 N), trivial⟩ trivial trivial trivial
def slices_Equal_mail_Mail.T (N : Nat) : TFun := { arg := (.pair (.slice (.pair .str (.pair (.int .i64) (.pair .str (.pair .str (.pair .bool (.pair .str .str))))))) (.slice (.pair .str (.pair (.int .i64) (.pair .str (.pair .str (.pair .bool (.pair .str .str)))))))), res := .bool, args := [(false, 1), (false, 1)], parts := [(false, 1)], own := [], f := fun a => slices_Equal_mail_Mail N a.1 a.2 }
theorem slices_Equal_mail_Mail.eq (N : Nat) (a : (slices_Equal_mail_Mail.T N).arg.den) : denFun (slices_Equal_mail_Mail.C N) Tryd.f20 slices_Equal_mail_Mail.h (slices_Equal_mail_Mail.T N) a = (slices_Equal_mail_Mail.T N).f a := by kernel_rfl
theorem slices_Equal_mail_Mail.sound (N : Nat) : Sound Tryd.prog 20 (slices_Equal_mail_Mail.T N) := sound_of (slices_Equal_mail_Mail.ok N) mix Tryd.func20 (by kernel_rfl) (by kernel_rfl) (loopsOK_list slices_Equal_mail_Mail.loops ⟨(slices_Equal_mail_Mail.is0 N).ok, trivial⟩) (slices_Equal_mail_Mail.eq N)
def mail_Repair.h : HT := .nil
noncomputable def mail_Repair.is (N : Nat) : List (Nat × Nat × InlSum) := []
noncomputable def mail_Repair.C (N : Nat) : Ctx := mkCtx env 0 [(19, mail_Read.T N)] (mail_Repair.is N) [] []
theorem mail_Repair.natIs (N : Nat) : NatIs (mail_Repair.is N) := trivial
theorem mail_Repair.loops : loopsOf (codeOf Tryd.f22) mail_Repair.h = [] := by kernel_rfl
theorem mail_Repair.ok (N : Nat) : CtxOK (mail_Repair.C N) := mkCtx_ok env_ok ⟨mail_Read.sound N, trivial⟩ trivial (mail_Repair.natIs N) trivial trivial trivial trivial
def mail_Repair.T (N : Nat) : TFun := { arg := .str, res := (.pair .str (.pair (.int .i64) (.int .i64))), args := [(false, 1)], parts := [(false, 1), (false, 1), (false, 1)], own := [], f := fun a => mail_Repair N a }
theorem mail_Repair.eq (N : Nat) (a : (mail_Repair.T N).arg.den) : denFun (mail_Repair.C N) Tryd.f22 mail_Repair.h (mail_Repair.T N) a = (mail_Repair.T N).f a := by kernel_rfl
theorem mail_Repair.sound (N : Nat) : Sound Tryd.prog 22 (mail_Repair.T N) := sound_of (mail_Repair.ok N) mix Tryd.func22 (by kernel_rfl) (by kernel_rfl) (loopsOK_list mail_Repair.loops trivial) (mail_Repair.eq N)
def strings_HasPrefix.h : HT := .nil
noncomputable def strings_HasPrefix.is (N : Nat) : List (Nat × Nat × InlSum) := []
noncomputable def strings_HasPrefix.C (N : Nat) : Ctx := mkCtx env 0 [(42, stringslite_HasPrefix.T N)] (strings_HasPrefix.is N) [] []
theorem strings_HasPrefix.natIs (N : Nat) : NatIs (strings_HasPrefix.is N) := trivial
theorem strings_HasPrefix.loops : loopsOf (codeOf Tryd.f23) strings_HasPrefix.h = [] := by kernel_rfl
theorem strings_HasPrefix.ok (N : Nat) : CtxOK (strings_HasPrefix.C N) := mkCtx_ok env_ok ⟨stringslite_HasPrefix.sound N, trivial⟩ trivial (strings_HasPrefix.natIs N) trivial trivial trivial trivial
def strings_HasPrefix.T (N : Nat) : TFun := { arg := (.pair .str .str), res := .bool, args := [(false, 1), (false, 1)], parts := [(false, 1)], own := [], f := fun a => strings_HasPrefix N a.1 a.2 }
theorem strings_HasPrefix.eq (N : Nat) (a : (strings_HasPrefix.T N).arg.den) : denFun (strings_HasPrefix.C N) Tryd.f23 strings_HasPrefix.h (strings_HasPrefix.T N) a = (strings_HasPrefix.T N).f a := by kernel_rfl
theorem strings_HasPrefix.sound (N : Nat) : Sound Tryd.prog 23 (strings_HasPrefix.T N) := sound_of (strings_HasPrefix.ok N) mix Tryd.func23 (by kernel_rfl) (by kernel_rfl) (loopsOK_list strings_HasPrefix.loops trivial) (strings_HasPrefix.eq N)
def wrackkeep2_MailBack.T0 : Tmpl := { len := 118, live := [(5, .one (.own 0)), (11, .one .hole), (58, .one .hole)], nx := 1, ty := (.pair (.slice (.pair .str (.pair (.int .i64) (.pair .str (.pair .str (.pair .bool (.pair .str .str))))))) (.pair (.int .i64) (.pair (.int .i64) .unit))) }
def wrackkeep2_MailBack.K0 : Tmpl := { len := 118, live := [(1, .one .hole), (6, .one .hole), (57, .one .hole)], nx := 0, ty := (.pair (.int .i64) (.pair .str (.pair (.int .i64) .unit))) }
def wrackkeep2_MailBack.X0_0 : Tmpl := { len := 118, live := [(5, .one (.own 0)), (11, .one .hole)], nx := 1, ty := (.pair (.slice (.pair .str (.pair (.int .i64) (.pair .str (.pair .str (.pair .bool (.pair .str .str))))))) (.pair (.int .i64) .unit)) }
def wrackkeep2_MailBack.L0 (N : Nat) : LoopSum := { T := wrackkeep2_MailBack.T0, keep := wrackkeep2_MailBack.K0, exits := [(0, wrackkeep2_MailBack.X0_0)], rets := none, run := fun {R} K s c v => iter (wrackkeep2_MailBack.s0 N s (fun x => K (.exit 0) (wrackkeep2_MailBack.X0_0.unpack (wrackkeep2_MailBack.K0.base c) x)) c) s N v }
def wrackkeep2_MailBack.h : HT := (.node .nil (.node .nil (.node .nil (.node .nil (.node (.node (.test 49 []) .nil) (.node .nil (.node .nil (.node (.node .nil (.node (.loop 0 (.node .nil (.node .nil (.node (.node (.node .nil (.node .nil (.node (.test 75 []) .nil))) .nil) .nil)))) .nil)) (.node .nil (.node .nil (.node (.test 4 []) .nil)))))))))))
noncomputable def wrackkeep2_MailBack.is (N : Nat) : List (Nat × Nat × InlSum) := []
noncomputable def wrackkeep2_MailBack.C (N : Nat) : Ctx := mkCtx env 0 [(6, wrackkeep2_messages.T N), (11, wrackkeep2_mails.T N), (14, mail_Print.T N), (19, mail_Read.T N), (20, slices_Equal_mail_Mail.T N), (21, wrackmake_Below.T N), (22, mail_Repair.T N), (23, strings_HasPrefix.T N)] (wrackkeep2_MailBack.is N) [(0, wrackkeep2_MailBack.L0 N)] []
theorem wrackkeep2_MailBack.natIs (N : Nat) : NatIs (wrackkeep2_MailBack.is N) := trivial
theorem wrackkeep2_MailBack.step0 (N : Nat) {R : Type} (K : Ex → St → R) (s : R) (c : wrackkeep2_MailBack.K0.ty.den) (again : wrackkeep2_MailBack.T0.ty.den → R) (v : wrackkeep2_MailBack.T0.ty.den) :
    roundC (wrackkeep2_MailBack.C N) (at_ (codeOf Tryd.f5) [true, true, true, true, true, true, true, false, true, false, false]) (.node .nil (.node .nil (.node (.node (.node .nil (.node .nil (.node (.test 75 []) .nil))) .nil) .nil))) wrackkeep2_MailBack.T0 (wrackkeep2_MailBack.L0 N).exits (wrackkeep2_MailBack.L0 N).rets K s (wrackkeep2_MailBack.K0.base c) again v = wrackkeep2_MailBack.s0 N s (fun x => K (.exit 0) (wrackkeep2_MailBack.X0_0.unpack (wrackkeep2_MailBack.K0.base c) x)) c again v := by kernel_rfl
theorem wrackkeep2_MailBack.is0 (N : Nat) : LoopIs (wrackkeep2_MailBack.C N) 0 (at_ (codeOf Tryd.f5) [true, true, true, true, true, true, true, false, true, false, false]) (.node .nil (.node .nil (.node (.node (.node .nil (.node .nil (.node (.test 75 []) .nil))) .nil) .nil))) N := loopIs_of (wrackkeep2_MailBack.L0 N) rfl (fun {R} K s c => wrackkeep2_MailBack.s0 N s (fun x => K (.exit 0) (wrackkeep2_MailBack.X0_0.unpack (wrackkeep2_MailBack.K0.base c) x)) c) (fun _ _ _ _ => rfl) (fun K s c again v => wrackkeep2_MailBack.step0 N K s c again v)
theorem wrackkeep2_MailBack.nat0 (N : Nat) : ∀ L, (wrackkeep2_MailBack.C N).Λ 0 = some L → NatL L := nat_of_is (wrackkeep2_MailBack.is0 N) (mkCtx_nat (wrackkeep2_MailBack.natIs N)) ⟨trivial, ⟨trivial, ⟨⟨⟨trivial, ⟨trivial, ⟨trivial, trivial⟩⟩⟩, trivial⟩, trivial⟩⟩⟩
theorem wrackkeep2_MailBack.loops : loopsOf (codeOf Tryd.f5) wrackkeep2_MailBack.h = [.loop 0 (at_ (codeOf Tryd.f5) [true, true, true, true, true, true, true, false, true, false, false]) (.node .nil (.node .nil (.node (.node (.node .nil (.node .nil (.node (.test 75 []) .nil))) .nil) .nil)))] := by kernel_rfl
theorem wrackkeep2_MailBack.ok (N : Nat) : CtxOK (wrackkeep2_MailBack.C N) := mkCtx_ok env_ok ⟨wrackkeep2_messages.sound N, wrackkeep2_mails.sound N, mail_Print.sound N, mail_Read.sound N, slices_Equal_mail_Mail.sound N, wrackmake_Below.sound N, mail_Repair.sound N, strings_HasPrefix.sound N, trivial⟩ trivial (wrackkeep2_MailBack.natIs N) ⟨natL_of (id := 0) rfl (wrackkeep2_MailBack.nat0 N), trivial⟩ trivial trivial trivial
def wrackkeep2_MailBack.T (N : Nat) : TFun := { arg := (.pair (.slice (.int .i64)) (.int .i64)), res := .bool, args := [(false, 1), (false, 1)], parts := [(false, 1)], own := [], f := fun a => wrackkeep2_MailBack N a.1 a.2 }
theorem wrackkeep2_MailBack.eq (N : Nat) (a : (wrackkeep2_MailBack.T N).arg.den) : denFun (wrackkeep2_MailBack.C N) Tryd.f5 wrackkeep2_MailBack.h (wrackkeep2_MailBack.T N) a = (wrackkeep2_MailBack.T N).f a := by kernel_rfl
theorem wrackkeep2_MailBack.sound (N : Nat) : Sound Tryd.prog 5 (wrackkeep2_MailBack.T N) := sound_of (wrackkeep2_MailBack.ok N) mix Tryd.func5 (by kernel_rfl) (by kernel_rfl) (loopsOK_list wrackkeep2_MailBack.loops ⟨(wrackkeep2_MailBack.is0 N).ok, trivial⟩) (wrackkeep2_MailBack.eq N)
end Go.Proofs.YtnklmlnkiepdiaaDoor
