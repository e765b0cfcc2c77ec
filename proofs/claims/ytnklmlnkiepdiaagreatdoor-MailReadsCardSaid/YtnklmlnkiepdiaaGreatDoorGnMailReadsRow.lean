/- MailReads: Read and Repair return what chapter 43 specifies, of every string. -/
import Derived.Test.YtnklmlnkiepdiaaGreatDoorAbRow
import Derived.Test.YtnklmlnkiepdiaaGreatDoorGn1
import Derived.Test.YtnklmlnkiepdiaaGreatDoorPuAllMailReads
import Derived.Test.YtnklmlnkiepdiaaGreatDoorAbLaid
import Derived.Test.YtnklmlnkiepdiaaGreatDoorAbLaidErr
import Derived.Test.YtnklmlnkiepdiaaGreatDoorLays
import Derived.JoinedOf
import Derived.Handed
import Derived.MakeChecks
import Derived.Test.YtnklmlnkiepdiaaGreatDoorCards
import Derived.Test.YtnklmlnkiepdiaaGreatDoorTie
import Derived.Deep.DeepHandedRow
import Derived.Lay
import Derived.SevenTiedAt
import Derived.JoinedCond
set_option linter.unusedVariables false
namespace Go.Proofs.YtnklmlnkiepdiaaGreatDoor.mailReads
open Go.ChangeShapes Go.WideShapes Go.ChangeAt Go.RowKit Go.Ab

theorem own : ownKnob Tryz.prog.godebug = none := by kernel_rfl

set_option maxRecDepth 100000 in
theorem contract (H : Type) (enc : TypeId × Value → H) (W : World) (base : Nat) (args : Array Value) (ds gs : List (DataW H)) (before : List MemPlace)
    (hval : ∀ (j : Nat) t v, Tryz.f4.params[j]? = some t → args[j]? = some v → Value.okWide Tryz.prog W .any base t v)
    (hW : DataW.Whole enc Tryz.prog Tryz.f4.params.toList Rows.mailReadsSpec.vars false W args.toList ds gs before) (hL : laidMetH Tryz.prog Rows.mailReadsRow.laid W) (hSh : W.ShapedOpen Tryz.prog) :
    Calls Tryz.prog 4 args W fun e W' => ∃ v, e = .returned v ∧ Rows.mailReadsSpec.post enc Tryz.prog Tryz.f4 false true false false W args v W' := by
  obtain ⟨N, hN⟩ : ∃ N : Nat, 1048577 < N := ⟨_, Nat.lt_succ_self _⟩
  rw [MakeChecks.laidMetH_plain _ _ _ (by kernel_rfl)] at hL
  obtain ⟨ps, hps, _⟩ := hL
  have hT : Tabs.p W := ⟨tabIs_of_mem (g := 5) (k := .u64) (zs := Go.Lib.pow10Tab) (by kernel_rfl) (by kernel_rfl) Tryz.underlying279 Tryz.underlying213 (by kernel_rfl) (by kernel_rfl) _ ps hps (List.mem_of_getElem? (i := 2) rfl), laysM155.s1_3 W hSh, errIs_of_mem (g := 1) (t := 119) (by kernel_rfl) (by kernel_rfl) (by kernel_rfl) _ ps hps (List.mem_of_getElem? (i := 5) rfl), errIs_of_mem (g := 2) (t := 119) (by kernel_rfl) (by kernel_rfl) (by kernel_rfl) _ ps hps (List.mem_of_getElem? (i := 4) rfl)⟩
  refine law_post (fn := Tryz.f4) (spec := Rows.mailReadsSpec) (wracklaw2_MailReads.sound N) hT (lo_of_tab (g := 5) (by kernel_rfl) hT.1) (τs := [.str]) (tb := 4) (m := 16) rfl rfl rfl rfl rfl (by kernel_rfl) (by kernel_rfl) Tryz.underlying4 rfl (fun hg hl => ?_) hval hW (B := Rows.uptoBulkAll (ds ++ gs)) (Nat.le_refl _) (fun x hok hb => ?_)
  · subst hg
    rw [Tryz.params4] at hl
    match ds, hl with
    | [d0], _ => rfl
  · exact mailReads_true N x hN

noncomputable abbrev w0 (os : Os) : World := (World.laidAll Tryz.prog os Rows.mailReadsRow.laid).forCall (fun _ _ => 0) ⟨#[], #[.string ⟨#[]⟩], []⟩
theorem laid_met (os : Os) : laidMetH Tryz.prog Rows.mailReadsRow.laid (w0 os).memory := by
  rw [MakeChecks.laidMetH_plain _ _ _ (by kernel_rfl)]
  exact laidMet_laidAll _ (by kernel_rfl) (by kernel_rfl)
theorem reads (os : Os) {H : Type} (enc : TypeId × Value → H) : ∃ places, DataW.whole enc Tryz.prog (w0 os).memory Tryz.f4.params.toList Rows.mailReadsSpec.vars false [.string ⟨#[]⟩] 8 = some ([.lit (.string [])], [], places) :=
  ⟨[], by kernel_rfl⟩
theorem okB (os : Os) : Input.okWideB Tryz.checked.prog (w0 os) 4 ⟨#[], #[.string ⟨#[]⟩], []⟩ = true := by kernel_rfl

set_option maxRecDepth 100000 in
theorem lifted (os : Os) (started : os.Started) (H : Type) (enc : TypeId × Value → H) (F : Stop.Interp) :
    ReturnsInHanded {} Tryz.checked os 4 .any ((OpenSpec.ofChange Rows.mailReadsSpec).preRow enc Tryz.prog Tryz.f4 Rows.mailReadsRow.domain false Rows.mailReadsRow.laid) (((OpenSpec.ofChange Rows.mailReadsSpec).at F).post enc Tryz.prog Tryz.f4 false true false false) := by
  obtain ⟨places, hx⟩ := reads os enc
  refine returnsInHanded_of_row (C := Tryz.checked) (s := OpenSpec.ofChange Rows.mailReadsSpec) own started (by kernel_rfl) Tryz.func4
    ⟨World.laidAll Tryz.prog os Rows.mailReadsRow.laid, fun _ _ => 0, ⟨#[], #[.string ⟨#[]⟩], []⟩, World.laidAll_os _ _ _, World.shaped_of_ZipB (by kernel_rfl) (by kernel_rfl),
      (Input.okWide_of_okWideB (base := 0) (okB os)).1, (Input.okWide_of_okWideB (okB os)).2, OpenSpec.preRow_of_cond 8 hx (by kernel_rfl) (fun k hk => by cases hk) (by kernel_rfl) (laid_met os), by
        simp only [Assume.holds]
        exact ⟨by simp, by simp, fun _ => Modest.zero, by simp, by simp⟩⟩ ?_
  intro W base args ds gs before hval hW _ _ _ hL hSh _
  exact contract H enc W base args ds gs before hval hW hL hSh

theorem over : Rows.MailReadsSaid :=
  OpenClaim.holds_of_cond 4 Tryz.f4 rfl rfl rfl rfl rfl rfl rfl ⟨rfl, rfl, rfl, rfl, rfl⟩ rfl rfl rfl rfl rfl (by kernel_rfl) Tryz.func4 (by kernel_rfl)
    (of_decide_eq_true (by kernel_rfl)) (by unfold Func.isWrapper; first | (rw [if_pos (by decide +kernel)]; kernel_rfl) | (rw [if_neg (by decide +kernel)]; exact ⟨rfl, rfl⟩))
    (fun os started H enc _ F => by rw [OpenClaim.pre_eq_preRow]; exact lifted os started H enc F)

theorem plain (f : FuncId) (fn : Func) (hf : Tryz.pinned.checked.prog.funcNamed "wrackline/wracklaw2.MailReads" = some f) (hfn : Tryz.pinned.checked.prog.funcs[f]? = some fn) :
    true = Tryz.pinned.checked.prog.looks [] ∧ ∀ (j : Nat) t, fn.params[j]? = some t → Tryz.pinned.checked.prog.wantsStandIn t = false := by
  obtain rfl : f = 4 := Option.some.inj ((show Tryz.prog.funcNamed "wrackline/wracklaw2.MailReads" = some 4 by kernel_rfl).symm.trans hf) |>.symm
  obtain rfl : fn = Tryz.f4 := (Option.some.inj (Tryz.func4.symm.trans hfn)).symm
  refine ⟨by kernel_rfl, fun j t ht => ?_⟩
  rw [Tryz.params4] at ht
  have hm : t ∈ [9] := by
    have := Array.mem_of_getElem? ht
    simpa using this
  have hall : ([9].all fun u => !Tryz.prog.wantsStandIn u) = true := by kernel_rfl
  exact (show Tryz.prog.wantsStandIn t = false by simpa using List.all_eq_true.1 hall t hm)

theorem proved : Rows.MailReadsCardSaid :=
  Claim7.holds_tied_plain_at .later [] _ _ _ _ over (fun _ h => by cases h) (by kernel_rfl) (fun _ h => by cases h) mailReads_row_tie rfl ⟨rfl, rfl⟩ (by kernel_rfl) rfl plain (by kernel_rfl)
end Go.Proofs.YtnklmlnkiepdiaaGreatDoor.mailReads
