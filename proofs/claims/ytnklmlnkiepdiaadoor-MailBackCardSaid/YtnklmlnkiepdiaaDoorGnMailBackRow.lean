/- MailBack: messages are read as they were printed; cut anywhere, the mailbox still has all messages that are whole, and the rest is reported, of every list of raw numbers and every number. -/
import Derived.Test.YtnklmlnkiepdiaaDoorAbRow
import Derived.Test.YtnklmlnkiepdiaaDoorGn1
import Derived.Test.YtnklmlnkiepdiaaDoorPuAllMailBack
import Derived.Test.YtnklmlnkiepdiaaDoorAbLaid
import Derived.Test.YtnklmlnkiepdiaaDoorAbLaidErr
import Derived.Test.YtnklmlnkiepdiaaDoorLays
import Derived.JoinedOf
import Derived.Handed
import Derived.MakeChecks
import Derived.Test.YtnklmlnkiepdiaaDoorCards
import Derived.Test.YtnklmlnkiepdiaaDoorTie
import Derived.Deep.DeepHandedRow
import Derived.Lay
import Derived.SevenTiedAt
import Derived.JoinedCond
set_option linter.unusedVariables false
namespace Go.Proofs.YtnklmlnkiepdiaaDoor.mailBack
open Go.ChangeShapes Go.WideShapes Go.ChangeAt Go.RowKit Go.Ab

theorem own : ownKnob Tryd.prog.godebug = none := by kernel_rfl

set_option maxRecDepth 100000 in
theorem contract (H : Type) (enc : TypeId × Value → H) (W : World) (base : Nat) (args : Array Value) (ds gs : List (DataW H)) (before : List MemPlace)
    (hval : ∀ (j : Nat) t v, Tryd.f5.params[j]? = some t → args[j]? = some v → Value.okWide Tryd.prog W .any base t v)
    (hW : DataW.Whole enc Tryd.prog Tryd.f5.params.toList Rows.mailBackSpec.vars false W args.toList ds gs before) (hL : laidMetH Tryd.prog Rows.mailBackRow.laid W) (hSh : W.ShapedOpen Tryd.prog) :
    Calls Tryd.prog 5 args W fun e W' => ∃ v, e = .returned v ∧ Rows.mailBackSpec.post enc Tryd.prog Tryd.f5 false true false false W args v W' := by
  obtain ⟨N, hN⟩ : ∃ N : Nat, 1048577 < N := ⟨_, Nat.lt_succ_self _⟩
  rw [MakeChecks.laidMetH_plain _ _ _ (by kernel_rfl)] at hL
  obtain ⟨ps, hps, _⟩ := hL
  have hT : Tabs.p W := ⟨tabIs_of_mem (g := 0) (k := .u64) (zs := Go.Lib.pow10Tab) (by kernel_rfl) (by kernel_rfl) Tryd.underlying132 Tryd.underlying114 (by kernel_rfl) (by kernel_rfl) _ ps hps (List.mem_of_getElem? (i := 2) rfl), laysM155.s1_3 W hSh, errIs_of_mem (g := 2) (t := 65) (by kernel_rfl) (by kernel_rfl) (by kernel_rfl) _ ps hps (List.mem_of_getElem? (i := 5) rfl), errIs_of_mem (g := 3) (t := 65) (by kernel_rfl) (by kernel_rfl) (by kernel_rfl) _ ps hps (List.mem_of_getElem? (i := 4) rfl)⟩
  refine law_post (fn := Tryd.f5) (spec := Rows.mailBackSpec) (wrackkeep2_MailBack.sound N) hT (lo_of_cell (g := 3) hT.2.2.2.choose_spec.1) (τs := [(.slice (.int .i64)), (.int .i64)]) (tb := 4) (m := 16) rfl rfl rfl rfl rfl (by kernel_rfl) (by kernel_rfl) Tryd.underlying4 rfl (fun hg hl => ?_) hval hW (B := Rows.uptoBulkAll (ds ++ gs)) (Nat.le_refl _) (fun x hok hb => ?_)
  · subst hg
    rw [Tryd.params5] at hl
    match ds, hl with
    | [d0, d1], _ => rfl
  · exact mailBack_true N x.1 x.2 hN

noncomputable abbrev w0 (os : Os) : World := (World.laidAll Tryd.prog os Rows.mailBackRow.laid).forCall (fun _ _ => 0) ⟨#[], #[.slice none 0 0, .int .i64 0], []⟩
theorem laid_met (os : Os) : laidMetH Tryd.prog Rows.mailBackRow.laid (w0 os).memory := by
  rw [MakeChecks.laidMetH_plain _ _ _ (by kernel_rfl)]
  exact laidMet_laidAll _ (by kernel_rfl) (by kernel_rfl)
theorem reads (os : Os) {H : Type} (enc : TypeId × Value → H) : ∃ places, DataW.whole enc Tryd.prog (w0 os).memory Tryd.f5.params.toList Rows.mailBackSpec.vars false [.slice none 0 0, .int .i64 0] 8 = some ([.nil, .lit (.int .i64 0)], [], places) :=
  ⟨[], by kernel_rfl⟩
theorem okB (os : Os) : Input.okWideB Tryd.checked.prog (w0 os) 5 ⟨#[], #[.slice none 0 0, .int .i64 0], []⟩ = true := by kernel_rfl

set_option maxRecDepth 100000 in
theorem lifted (os : Os) (started : os.Started) (H : Type) (enc : TypeId × Value → H) (F : Stop.Interp) :
    ReturnsInHanded {} Tryd.checked os 5 .any ((OpenSpec.ofChange Rows.mailBackSpec).preRow enc Tryd.prog Tryd.f5 Rows.mailBackRow.domain false Rows.mailBackRow.laid) (((OpenSpec.ofChange Rows.mailBackSpec).at F).post enc Tryd.prog Tryd.f5 false true false false) := by
  obtain ⟨places, hx⟩ := reads os enc
  refine returnsInHanded_of_row (C := Tryd.checked) (s := OpenSpec.ofChange Rows.mailBackSpec) own started (by kernel_rfl) Tryd.func5
    ⟨World.laidAll Tryd.prog os Rows.mailBackRow.laid, fun _ _ => 0, ⟨#[], #[.slice none 0 0, .int .i64 0], []⟩, World.laidAll_os _ _ _, World.shaped_of_ZipB (by kernel_rfl) (by kernel_rfl),
      (Input.okWide_of_okWideB (base := 0) (okB os)).1, (Input.okWide_of_okWideB (okB os)).2, OpenSpec.preRow_of_cond 8 hx (by kernel_rfl) (fun k hk => by cases hk) (by kernel_rfl) (laid_met os), by
        simp only [Assume.holds]
        exact ⟨by simp, by simp, fun _ => Modest.zero, by simp, by simp⟩⟩ ?_
  intro W base args ds gs before hval hW _ _ _ hL hSh _
  exact contract H enc W base args ds gs before hval hW hL hSh

theorem over : Rows.MailBackSaid :=
  OpenClaim.holds_of_cond 5 Tryd.f5 rfl rfl rfl rfl rfl rfl rfl ⟨rfl, rfl, rfl, rfl, rfl⟩ rfl rfl rfl rfl rfl (by kernel_rfl) Tryd.func5 (by kernel_rfl)
    (of_decide_eq_true (by kernel_rfl)) (by unfold Func.isWrapper; first | (rw [if_pos (by decide +kernel)]; kernel_rfl) | (rw [if_neg (by decide +kernel)]; exact ⟨rfl, rfl⟩))
    (fun os started H enc _ F => by rw [OpenClaim.pre_eq_preRow]; exact lifted os started H enc F)

theorem plain (f : FuncId) (fn : Func) (hf : Tryd.pinned.checked.prog.funcNamed "wrackline/wrackkeep2.MailBack" = some f) (hfn : Tryd.pinned.checked.prog.funcs[f]? = some fn) :
    true = Tryd.pinned.checked.prog.looks [] ∧ ∀ (j : Nat) t, fn.params[j]? = some t → Tryd.pinned.checked.prog.wantsStandIn t = false := by
  obtain rfl : f = 5 := Option.some.inj ((show Tryd.prog.funcNamed "wrackline/wrackkeep2.MailBack" = some 5 by kernel_rfl).symm.trans hf) |>.symm
  obtain rfl : fn = Tryd.f5 := (Option.some.inj (Tryd.func5.symm.trans hfn)).symm
  refine ⟨by kernel_rfl, fun j t ht => ?_⟩
  rw [Tryd.params5] at ht
  have hm : t ∈ [22, 3] := by
    have := Array.mem_of_getElem? ht
    simpa using this
  have hall : ([22, 3].all fun u => !Tryd.prog.wantsStandIn u) = true := by kernel_rfl
  exact (show Tryd.prog.wantsStandIn t = false by simpa using List.all_eq_true.1 hall t hm)

theorem proved : Rows.MailBackCardSaid :=
  Claim7.holds_tied_plain_at .later [] _ _ _ _ over (fun _ h => by cases h) (by kernel_rfl) (fun _ h => by cases h) mailBack_row_tie rfl ⟨rfl, rfl⟩ (by kernel_rfl) rfl plain (by kernel_rfl)
end Go.Proofs.YtnklmlnkiepdiaaDoor.mailBack
