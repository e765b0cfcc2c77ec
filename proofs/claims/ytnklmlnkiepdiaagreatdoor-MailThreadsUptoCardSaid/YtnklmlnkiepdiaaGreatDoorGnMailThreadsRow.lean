/- MailThreads: Purge and Threads return what chapter 43 specifies, of every list of messages. -/
import Derived.Test.YtnklmlnkiepdiaaGreatDoorAbRow
import Derived.Test.YtnklmlnkiepdiaaGreatDoorGn2
import Derived.Test.YtnklmlnkiepdiaaGreatDoorPuAllMailThreads
import Derived.Test.YtnklmlnkiepdiaaGreatDoorAbLaid
import Derived.Test.YtnklmlnkiepdiaaGreatDoorLays
import Derived.MakeChecks
import Derived.Test.YtnklmlnkiepdiaaGreatDoorCards
import Derived.Test.YtnklmlnkiepdiaaGreatDoorTie
import Derived.Deep.DeepHandedRow
import Derived.Lay
import Derived.SevenTiedAt
import Derived.JoinedCond
set_option linter.unusedVariables false
namespace Go.Proofs.YtnklmlnkiepdiaaGreatDoor.mailThreads
open Go.ChangeShapes Go.WideShapes Go.ChangeAt Go.RowKit Go.Ab

theorem own : ownKnob Tryz.prog.godebug = none := by kernel_rfl

set_option maxRecDepth 100000 in
theorem contract (H : Type) (enc : TypeId × Value → H) (W : World) (base : Nat) (args : Array Value) (ds gs : List (DataW H)) (before : List MemPlace)
    (hval : ∀ (j : Nat) t v, Tryz.f3.params[j]? = some t → args[j]? = some v → Value.okWide Tryz.prog W .any base t v)
    (hW : DataW.Whole enc Tryz.prog Tryz.f3.params.toList Rows.mailThreadsSpec.vars false W args.toList ds gs before) (hk : Rows.uptoSmall H (ds ++ gs) = true) (hL : laidMetH Tryz.prog Rows.mailThreadsUptoRow.laid W) (hSh : W.ShapedOpen Tryz.prog) :
    Calls Tryz.prog 3 args W fun e W' => ∃ v, e = .returned v ∧ Rows.mailThreadsSpec.post enc Tryz.prog Tryz.f3 false true false false W args v W' := by
  obtain ⟨N, hN⟩ : ∃ N : Nat, 1048577 < N := ⟨_, Nat.lt_succ_self _⟩
  rw [MakeChecks.laidMetH_plain _ _ _ (by kernel_rfl)] at hL
  obtain ⟨ps, hps, _⟩ := hL
  have hT : Tabs.p W := ⟨tabIs_of_mem (g := 5) (k := .u64) (zs := Go.Lib.pow10Tab) (by kernel_rfl) (by kernel_rfl) Tryz.underlying279 Tryz.underlying213 (by kernel_rfl) (by kernel_rfl) _ ps hps (List.mem_of_getElem? (i := 2) rfl), laysM155.s1_3 W hSh⟩
  refine law_post (fn := Tryz.f3) (spec := Rows.mailThreadsSpec) (wracklaw2_MailThreads.sound N) hT (lo_of_tab (g := 5) (by kernel_rfl) hT.1) (τs := [(.slice (.pair .str (.pair (.int .i64) (.pair .str (.pair .str (.pair .bool (.pair .str .str)))))))]) (tb := 4) (m := 16) rfl rfl rfl rfl rfl (by kernel_rfl) (by kernel_rfl) Tryz.underlying4 rfl (fun hg hl => ?_) hval hW (B := 1048576) (of_decide_eq_true hk) (fun x hok hb => ?_)
  · subst hg
    rw [Tryz.params3] at hl
    match ds, hl with
    | [d0], _ => rfl
  · exact mailThreads_true N x (fun e he => ⟨bulk_str (bulk_pair (bulk_mem hb e he)).1, bulk_str (bulk_pair (bulk_pair (bulk_pair (bulk_mem hb e he)).2).2).1, bulk_str (bulk_pair (bulk_pair (bulk_pair (bulk_pair (bulk_mem hb e he)).2).2).2).1, bulk_str (bulk_pair (bulk_pair (bulk_pair (bulk_pair (bulk_pair (bulk_pair (bulk_mem hb e he)).2).2).2).2).2).1, bulk_str (bulk_pair (bulk_pair (bulk_pair (bulk_pair (bulk_pair (bulk_pair (bulk_mem hb e he)).2).2).2).2).2).2⟩) hN

noncomputable abbrev w0 (os : Os) : World := (World.laidAll Tryz.prog os Rows.mailThreadsUptoRow.laid).forCall (fun _ _ => 0) ⟨#[], #[.slice none 0 0], []⟩
theorem laid_met (os : Os) : laidMetH Tryz.prog Rows.mailThreadsUptoRow.laid (w0 os).memory := by
  rw [MakeChecks.laidMetH_plain _ _ _ (by kernel_rfl)]
  exact laidMet_laidAll _ (by kernel_rfl) (by kernel_rfl)
theorem reads (os : Os) {H : Type} (enc : TypeId × Value → H) : ∃ places, DataW.whole enc Tryz.prog (w0 os).memory Tryz.f3.params.toList Rows.mailThreadsSpec.vars false [.slice none 0 0] 8 = some ([.nil], [], places) :=
  ⟨[], by kernel_rfl⟩
theorem okB (os : Os) : Input.okWideB Tryz.checked.prog (w0 os) 3 ⟨#[], #[.slice none 0 0], []⟩ = true := by kernel_rfl

set_option maxRecDepth 100000 in
theorem lifted (os : Os) (started : os.Started) (H : Type) (enc : TypeId × Value → H) (F : Stop.Interp) :
    ReturnsInHanded {} Tryz.checked os 3 .any ((Rows.OpenSpec.upto Rows.mailThreadsSpec).preRow enc Tryz.prog Tryz.f3 Rows.mailThreadsUptoRow.domain false Rows.mailThreadsUptoRow.laid) (((Rows.OpenSpec.upto Rows.mailThreadsSpec).at F).post enc Tryz.prog Tryz.f3 false true false false) := by
  obtain ⟨places, hx⟩ := reads os enc
  refine returnsInHanded_of_row (C := Tryz.checked) (s := Rows.OpenSpec.upto Rows.mailThreadsSpec) own started (by kernel_rfl) Tryz.func3
    ⟨World.laidAll Tryz.prog os Rows.mailThreadsUptoRow.laid, fun _ _ => 0, ⟨#[], #[.slice none 0 0], []⟩, World.laidAll_os _ _ _, World.shaped_of_ZipB (by kernel_rfl) (by kernel_rfl),
      (Input.okWide_of_okWideB (base := 0) (okB os)).1, (Input.okWide_of_okWideB (okB os)).2, OpenSpec.preRow_of_cond 8 hx (by kernel_rfl) (fun k hk => by cases hk; kernel_rfl) (by kernel_rfl) (laid_met os), by
        simp only [Assume.holds]
        exact ⟨by simp, by simp, fun _ => Modest.zero, by simp, by simp⟩⟩ ?_
  intro W base args ds gs before hval hW _ hk _ hL hSh _
  exact contract H enc W base args ds gs before hval hW (hk _ rfl) hL hSh

theorem over : Rows.MailThreadsUptoSaid :=
  OpenClaim.holds_of_cond 3 Tryz.f3 rfl rfl rfl rfl rfl rfl rfl ⟨rfl, rfl, rfl, rfl, rfl⟩ rfl rfl rfl rfl rfl (by kernel_rfl) Tryz.func3 (by kernel_rfl)
    (of_decide_eq_true (by kernel_rfl)) (by unfold Func.isWrapper; first | (rw [if_pos (by decide +kernel)]; kernel_rfl) | (rw [if_neg (by decide +kernel)]; exact ⟨rfl, rfl⟩))
    (fun os started H enc _ F => by rw [OpenClaim.pre_eq_preRow]; exact lifted os started H enc F)

theorem plain (f : FuncId) (fn : Func) (hf : Tryz.pinned.checked.prog.funcNamed "wrackline/wracklaw2.MailThreads" = some f) (hfn : Tryz.pinned.checked.prog.funcs[f]? = some fn) :
    true = Tryz.pinned.checked.prog.looks [] ∧ ∀ (j : Nat) t, fn.params[j]? = some t → Tryz.pinned.checked.prog.wantsStandIn t = false := by
  obtain rfl : f = 3 := Option.some.inj ((show Tryz.prog.funcNamed "wrackline/wracklaw2.MailThreads" = some 3 by kernel_rfl).symm.trans hf) |>.symm
  obtain rfl : fn = Tryz.f3 := (Option.some.inj (Tryz.func3.symm.trans hfn)).symm
  refine ⟨by kernel_rfl, fun j t ht => ?_⟩
  rw [Tryz.params3] at ht
  have hm : t ∈ [22] := by
    have := Array.mem_of_getElem? ht
    simpa using this
  have hall : ([22].all fun u => !Tryz.prog.wantsStandIn u) = true := by kernel_rfl
  exact (show Tryz.prog.wantsStandIn t = false by simpa using List.all_eq_true.1 hall t hm)

theorem proved : Rows.MailThreadsUptoCardSaid :=
  Claim7.holds_tied_plain_at .later [] _ _ _ _ over (fun _ h => by cases h) (by kernel_rfl) (fun _ h => by cases h) mailThreadsUpto_row_tie rfl ⟨rfl, rfl⟩ (by kernel_rfl) rfl plain (by kernel_rfl)
end Go.Proofs.YtnklmlnkiepdiaaGreatDoor.mailThreads
