/- FsDiffs: Diff returns what chapter 16 specifies: always true of trees of moderate size. -/
import Derived.Test.YthkpfkjbflcpnaaDoorAbRow
import Derived.Test.YthkpfkjbflcpnaaDoorGn1
import Derived.Test.YthkpfkjbflcpnaaDoorPuAllFsDiffs
import Derived.MakeChecks
import Derived.Test.YthkpfkjbflcpnaaDoorCards
import Derived.Test.YthkpfkjbflcpnaaDoorTie
import Derived.Deep.DeepHandedRow
import Derived.Lay
import Derived.SevenTiedAt
import Derived.JoinedCond
set_option linter.unusedVariables false
namespace Go.Proofs.YthkpfkjbflcpnaaDoor.fsDiffs
open Go.ChangeShapes Go.WideShapes Go.ChangeAt Go.RowKit Go.Ab

theorem own : ownKnob Tryd.prog.godebug = none := by kernel_rfl

set_option maxRecDepth 100000 in
theorem contract (H : Type) (enc : TypeId × Value → H) (W : World) (base : Nat) (args : Array Value) (ds gs : List (DataW H)) (before : List MemPlace)
    (hval : ∀ (j : Nat) t v, Tryd.f6.params[j]? = some t → args[j]? = some v → Value.okWide Tryd.prog W .any base t v)
    (hW : DataW.Whole enc Tryd.prog Tryd.f6.params.toList Rows.fsDiffsSpec.vars false W args.toList ds gs before) (hk : Rows.uptoSmall H (ds ++ gs) = true) :
    Calls Tryd.prog 6 args W fun e W' => ∃ v, e = .returned v ∧ Rows.fsDiffsSpec.post enc Tryd.prog Tryd.f6 false true false false W args v W' := by
  obtain ⟨N, hN⟩ : ∃ N : Nat, 1048577 < N := ⟨_, Nat.lt_succ_self _⟩
  refine law_post (fn := Tryd.f6) (spec := Rows.fsDiffsSpec) (wracklaw2_FsDiffs.sound N) (τs := [(.slice (.pair .str (.pair .bool (.pair (.int .i64) (.slice (.int .u8)))))), (.slice (.pair .str (.pair .bool (.pair (.int .i64) (.slice (.int .u8))))))]) (tb := 4) (m := 16) rfl rfl rfl rfl rfl (by kernel_rfl) (by kernel_rfl) Tryd.underlying4 rfl (fun hg hl => ?_) hval hW (B := 1048576) (of_decide_eq_true hk) (fun x hok hb => ?_)
  · subst hg
    rw [Tryd.params6] at hl
    match ds, hl with
    | [d0, d1], _ => rfl
  · exact fsDiffs_true N x.1 x.2 (fun e he => bulk_str (bulk_pair (bulk_mem (bulk_pair hb).1 e he)).1) (fun e he => bulk_str (bulk_pair (bulk_mem (bulk_pair hb).2 e he)).1) hN

noncomputable abbrev w0 (os : Os) : World := (World.laidAll Tryd.prog os Rows.fsDiffsUptoRow.laid).forCall (fun _ _ => 0) ⟨#[], #[.slice none 0 0, .slice none 0 0], []⟩
theorem laid_met (os : Os) : laidMetH Tryd.prog Rows.fsDiffsUptoRow.laid (w0 os).memory := by
  rw [MakeChecks.laidMetH_plain _ _ _ (by kernel_rfl)]
  exact laidMet_laidAll _ (by kernel_rfl) (by kernel_rfl)
theorem reads (os : Os) {H : Type} (enc : TypeId × Value → H) : ∃ places, DataW.whole enc Tryd.prog (w0 os).memory Tryd.f6.params.toList Rows.fsDiffsSpec.vars false [.slice none 0 0, .slice none 0 0] 8 = some ([.nil, .nil], [], places) :=
  ⟨[], by kernel_rfl⟩
theorem okB (os : Os) : Input.okWideB Tryd.checked.prog (w0 os) 6 ⟨#[], #[.slice none 0 0, .slice none 0 0], []⟩ = true := by kernel_rfl

set_option maxRecDepth 100000 in
theorem lifted (os : Os) (started : os.Started) (H : Type) (enc : TypeId × Value → H) (F : Stop.Interp) :
    ReturnsInHanded {} Tryd.checked os 6 .any ((Rows.OpenSpec.upto Rows.fsDiffsSpec).preRow enc Tryd.prog Tryd.f6 Rows.fsDiffsUptoRow.domain false Rows.fsDiffsUptoRow.laid) (((Rows.OpenSpec.upto Rows.fsDiffsSpec).at F).post enc Tryd.prog Tryd.f6 false true false false) := by
  obtain ⟨places, hx⟩ := reads os enc
  refine returnsInHanded_of_row (C := Tryd.checked) (s := Rows.OpenSpec.upto Rows.fsDiffsSpec) own started (by kernel_rfl) Tryd.func6
    ⟨World.laidAll Tryd.prog os Rows.fsDiffsUptoRow.laid, fun _ _ => 0, ⟨#[], #[.slice none 0 0, .slice none 0 0], []⟩, World.laidAll_os _ _ _, World.shaped_of_ZipB (by kernel_rfl) (by kernel_rfl),
      (Input.okWide_of_okWideB (base := 0) (okB os)).1, (Input.okWide_of_okWideB (okB os)).2, OpenSpec.preRow_of_cond 8 hx (by kernel_rfl) (fun k hk => by cases hk; kernel_rfl) (by kernel_rfl) (laid_met os), by
        simp only [Assume.holds]
        exact ⟨by simp, by simp, fun _ => Modest.zero, by simp, by simp⟩⟩ ?_
  intro W base args ds gs before hval hW _ hk _ _ _ _
  exact contract H enc W base args ds gs before hval hW (hk _ rfl)

theorem over : Rows.FsDiffsUptoSaid :=
  OpenClaim.holds_of_cond 6 Tryd.f6 rfl rfl rfl rfl rfl rfl rfl ⟨rfl, rfl, rfl, rfl, rfl⟩ rfl rfl rfl rfl rfl (by kernel_rfl) Tryd.func6 (by kernel_rfl)
    (of_decide_eq_true (by kernel_rfl)) (by unfold Func.isWrapper; first | (rw [if_pos (by decide +kernel)]; kernel_rfl) | (rw [if_neg (by decide +kernel)]; exact ⟨rfl, rfl⟩))
    (fun os started H enc _ F => by rw [OpenClaim.pre_eq_preRow]; exact lifted os started H enc F)

theorem plain (f : FuncId) (fn : Func) (hf : Tryd.pinned.checked.prog.funcNamed "wrackline/wracklaw2.FsDiffs" = some f) (hfn : Tryd.pinned.checked.prog.funcs[f]? = some fn) :
    false = Tryd.pinned.checked.prog.looks [] ∧ ∀ (j : Nat) t, fn.params[j]? = some t → Tryd.pinned.checked.prog.wantsStandIn t = false := by
  obtain rfl : f = 6 := Option.some.inj ((show Tryd.prog.funcNamed "wrackline/wracklaw2.FsDiffs" = some 6 by kernel_rfl).symm.trans hf) |>.symm
  obtain rfl : fn = Tryd.f6 := (Option.some.inj (Tryd.func6.symm.trans hfn)).symm
  refine ⟨by kernel_rfl, fun j t ht => ?_⟩
  rw [Tryd.params6] at ht
  have hm : t ∈ [31, 31] := by
    have := Array.mem_of_getElem? ht
    simpa using this
  have hall : ([31, 31].all fun u => !Tryd.prog.wantsStandIn u) = true := by kernel_rfl
  exact (show Tryd.prog.wantsStandIn t = false by simpa using List.all_eq_true.1 hall t hm)

theorem proved : Rows.FsDiffsUptoCardSaid :=
  Claim7.holds_tied_plain_at .later [] _ _ _ _ over (fun _ h => by cases h) (by kernel_rfl) (fun _ h => by cases h) fsDiffsUpto_row_tie rfl ⟨rfl, rfl⟩ (by kernel_rfl) rfl plain (by kernel_rfl)
end Go.Proofs.YthkpfkjbflcpnaaDoor.fsDiffs
