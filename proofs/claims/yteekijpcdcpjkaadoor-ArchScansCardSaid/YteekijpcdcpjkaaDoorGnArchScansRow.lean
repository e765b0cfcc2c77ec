/- ArchScans: Scan returns what chapter 44 specifies: always true. -/
import Derived.Test.YteekijpcdcpjkaaDoorAbRow
import Derived.Test.YteekijpcdcpjkaaDoorGn1
import Derived.Test.YteekijpcdcpjkaaDoorPuAllArchScans
import Derived.JoinedOf
import Derived.Handed
import Derived.MakeChecks
import Derived.Test.YteekijpcdcpjkaaDoorCards
import Derived.Test.YteekijpcdcpjkaaDoorTie
import Derived.Deep.DeepHandedRow
import Derived.Lay
import Derived.SevenTiedAt
import Derived.JoinedCond
set_option linter.unusedVariables false
namespace Go.Proofs.YteekijpcdcpjkaaDoor.archScans
open Go.ChangeShapes Go.WideShapes Go.ChangeAt Go.RowKit Go.Ab

theorem own : ownKnob Tryd.prog.godebug = none := by kernel_rfl

set_option maxRecDepth 100000 in
theorem contract (H : Type) (enc : TypeId × Value → H) (W : World) (base : Nat) (args : Array Value) (ds gs : List (DataW H)) (before : List MemPlace)
    (hval : ∀ (j : Nat) t v, Tryd.f6.params[j]? = some t → args[j]? = some v → Value.okWide Tryd.prog W .any base t v)
    (hW : DataW.Whole enc Tryd.prog Tryd.f6.params.toList Rows.archScansSpec.vars false W args.toList ds gs before) :
    Calls Tryd.prog 6 args W fun e W' => ∃ v, e = .returned v ∧ Rows.archScansSpec.post enc Tryd.prog Tryd.f6 false true false false W args v W' := by
  obtain ⟨N, hN⟩ : ∃ N : Nat, 1048577 < N := ⟨_, Nat.lt_succ_self _⟩
  refine law_post (fn := Tryd.f6) (spec := Rows.archScansSpec) (wracklaw2_ArchScans.sound N) (τs := [(.slice (.int .u8))]) (tb := 4) (m := 16) rfl rfl rfl rfl rfl (by kernel_rfl) (by kernel_rfl) Tryd.underlying4 rfl (fun hg hl => ?_) hval hW (B := Rows.uptoBulkAll (ds ++ gs)) (Nat.le_refl _) (fun x hok hb => ?_)
  · subst hg
    rw [Tryd.params6] at hl
    match ds, hl with
    | [d0], _ => rfl
  · exact archScans_true N x (ok_bytes hok) hN

noncomputable abbrev w0 (os : Os) : World := (World.laidAll Tryd.prog os Rows.archScansRow.laid).forCall (fun _ _ => 0) ⟨#[], #[.slice none 0 0], []⟩
theorem laid_met (os : Os) : laidMetH Tryd.prog Rows.archScansRow.laid (w0 os).memory := by
  rw [MakeChecks.laidMetH_plain _ _ _ (by kernel_rfl)]
  exact laidMet_laidAll _ (by kernel_rfl) (by kernel_rfl)
theorem reads (os : Os) {H : Type} (enc : TypeId × Value → H) : ∃ places, DataW.whole enc Tryd.prog (w0 os).memory Tryd.f6.params.toList Rows.archScansSpec.vars false [.slice none 0 0] 8 = some ([.nil], [], places) :=
  ⟨[], by kernel_rfl⟩
theorem okB (os : Os) : Input.okWideB Tryd.checked.prog (w0 os) 6 ⟨#[], #[.slice none 0 0], []⟩ = true := by kernel_rfl

set_option maxRecDepth 100000 in
theorem lifted (os : Os) (started : os.Started) (H : Type) (enc : TypeId × Value → H) (F : Stop.Interp) :
    ReturnsInHanded {} Tryd.checked os 6 .any ((OpenSpec.ofChange Rows.archScansSpec).preRow enc Tryd.prog Tryd.f6 Rows.archScansRow.domain false Rows.archScansRow.laid) (((OpenSpec.ofChange Rows.archScansSpec).at F).post enc Tryd.prog Tryd.f6 false true false false) := by
  obtain ⟨places, hx⟩ := reads os enc
  refine returnsInHanded_of_row (C := Tryd.checked) (s := OpenSpec.ofChange Rows.archScansSpec) own started (by kernel_rfl) Tryd.func6
    ⟨World.laidAll Tryd.prog os Rows.archScansRow.laid, fun _ _ => 0, ⟨#[], #[.slice none 0 0], []⟩, World.laidAll_os _ _ _, World.shaped_of_ZipB (by kernel_rfl) (by kernel_rfl),
      (Input.okWide_of_okWideB (base := 0) (okB os)).1, (Input.okWide_of_okWideB (okB os)).2, OpenSpec.preRow_of_cond 8 hx (by kernel_rfl) (fun k hk => by cases hk) (by kernel_rfl) (laid_met os), by
        simp only [Assume.holds]
        exact ⟨by simp, by simp, fun _ => Modest.zero, by simp, by simp⟩⟩ ?_
  intro W base args ds gs before hval hW _ _ _ _ _ _
  exact contract H enc W base args ds gs before hval hW

theorem over : Rows.ArchScansSaid :=
  OpenClaim.holds_of_cond 6 Tryd.f6 rfl rfl rfl rfl rfl rfl rfl ⟨rfl, rfl, rfl, rfl, rfl⟩ rfl rfl rfl rfl rfl (by kernel_rfl) Tryd.func6 (by kernel_rfl)
    (of_decide_eq_true (by kernel_rfl)) (by unfold Func.isWrapper; first | (rw [if_pos (by decide +kernel)]; kernel_rfl) | (rw [if_neg (by decide +kernel)]; exact ⟨rfl, rfl⟩))
    (fun os started H enc _ F => by rw [OpenClaim.pre_eq_preRow]; exact lifted os started H enc F)

theorem plain (f : FuncId) (fn : Func) (hf : Tryd.pinned.checked.prog.funcNamed "wrackline/wracklaw2.ArchScans" = some f) (hfn : Tryd.pinned.checked.prog.funcs[f]? = some fn) :
    false = Tryd.pinned.checked.prog.looks [] ∧ ∀ (j : Nat) t, fn.params[j]? = some t → Tryd.pinned.checked.prog.wantsStandIn t = false := by
  obtain rfl : f = 6 := Option.some.inj ((show Tryd.prog.funcNamed "wrackline/wracklaw2.ArchScans" = some 6 by kernel_rfl).symm.trans hf) |>.symm
  obtain rfl : fn = Tryd.f6 := (Option.some.inj (Tryd.func6.symm.trans hfn)).symm
  refine ⟨by kernel_rfl, fun j t ht => ?_⟩
  rw [Tryd.params6] at ht
  have hm : t ∈ [25] := by
    have := Array.mem_of_getElem? ht
    simpa using this
  have hall : ([25].all fun u => !Tryd.prog.wantsStandIn u) = true := by kernel_rfl
  exact (show Tryd.prog.wantsStandIn t = false by simpa using List.all_eq_true.1 hall t hm)

theorem proved : Rows.ArchScansCardSaid :=
  Claim7.holds_tied_plain_at .later [] _ _ _ _ over (fun _ h => by cases h) (by kernel_rfl) (fun _ h => by cases h) archScans_row_tie rfl ⟨rfl, rfl⟩ (by kernel_rfl) rfl plain (by kernel_rfl)
end Go.Proofs.YteekijpcdcpjkaaDoor.archScans
