/- ArchPacks (P44.2): for every input of bulk at most 1048576 the law returns true: Pack and Unpack return what the reference returns. -/
import Derived.Test.YteekijpcdcpjkaaAbRow
import Derived.Test.YteekijpcdcpjkaaGn0
import Derived.Test.YteekijpcdcpjkaaPuRuns
import Derived.JoinedCond
set_option linter.unusedVariables false
namespace Go.Proofs.Yteekijpcdcpjkaa.archPacks
open Go.ChangeShapes Go.WideShapes Go.ChangeAt Go.RowKit Go.Ab

theorem own : ownKnob Try.prog.godebug = none := by kernel_rfl

theorem contract (H : Type) (enc : TypeId × Value → H) (W : World) (base : Nat) (args : Array Value) (ds gs : List (DataW H)) (before : List MemPlace)
    (hval : ∀ (j : Nat) t v, Try.f4.params[j]? = some t → args[j]? = some v → Value.okWide Try.prog W .any base t v)
    (hW : DataW.Whole enc Try.prog Try.f4.params.toList Rows.archPacksSpec.vars false W args.toList ds gs before) (hk : Rows.uptoSmall H (ds ++ gs) = true) :
    Calls Try.prog 4 args W fun e W' => ∃ v, e = .returned v ∧ Rows.archPacksSpec.post enc Try.prog Try.f4 false true false false W args v W' := by
  obtain ⟨N, hN⟩ : ∃ N : Nat, 536870912 < N := ⟨_, Nat.lt_succ_self _⟩
  refine law_post (wracklaw2_ArchPacks.sound N) (τs := [(.slice (.int .u8)), (.int .i64)]) (tb := 4) (m := 16) rfl rfl rfl rfl rfl (by kernel_rfl) (by kernel_rfl) Try.underlying4 rfl (fun hg hl => ?_) hval hW (B := 1048576) (of_decide_eq_true hk) (fun x hok hb => ?_)
  · subst hg
    rw [Try.params4] at hl
    match ds, hl with
    | [d0, d1], _ => rfl
  · exact archPacks_true N x.1 x.2 (by have h : (Ty.slice (.int .u8)).bulk x.1 + 1 ≤ 1048576 := hb; rw [bulk_ints] at h; omega) hN (ok_bytes hok.1) (ok_i64 hok.2)

set_option maxRecDepth 100000 in
theorem lifted (os : Os) (started : os.Started) (H : Type) (enc : TypeId × Value → H) (F : Stop.Interp) :
    ReturnsInHanded {} Try.checked os 4 .any ((Rows.OpenSpec.upto Rows.archPacksSpec).pre6 enc Try.prog Try.f4 Rows.archPacksUptoRow.domain false) (((Rows.OpenSpec.upto Rows.archPacksSpec).at F).post enc Try.prog Try.f4 false true false false) := by
  refine returnsInHanded_of_cond (C := Try.checked) (s := Rows.OpenSpec.upto Rows.archPacksSpec) (k := Rows.uptoSmall) rfl own started (by kernel_rfl) Try.func4
    (OpenSpec.witness (enc := enc) (C := Try.checked) (s := Rows.OpenSpec.upto Rows.archPacksSpec) (k := Rows.uptoSmall) rfl false ⟨#[], #[.slice none 0 0, .int .i64 0], []⟩ 8 (by kernel_rfl) (by kernel_rfl) (by kernel_rfl)
      (x := ([.nil, .lit (.int .i64 0)], [], [])) (by kernel_rfl) rfl (by kernel_rfl)) ?_
  intro W base args ds gs before hval hW _ hk _
  exact contract H enc W base args ds gs before hval hW hk

theorem over : Rows.archPacksUptoRow.holds Try.pinned (Rows.OpenSpec.upto Rows.archPacksSpec) :=
  OpenClaim.holds_of_cond 4 Try.f4 rfl rfl rfl rfl rfl rfl rfl ⟨rfl, rfl, rfl, rfl, rfl⟩ rfl rfl rfl rfl rfl (by kernel_rfl) Try.func4 (by kernel_rfl)
    (of_decide_eq_true (by kernel_rfl)) (by unfold Func.isWrapper; first | (rw [if_pos (by decide +kernel)]; kernel_rfl) | (rw [if_neg (by decide +kernel)]; exact ⟨rfl, rfl⟩))
    (fun os started H enc _ F => lifted os started H enc F)

theorem proved : Rows.ArchPacksUptoSaid :=
  over
end Go.Proofs.Yteekijpcdcpjkaa.archPacks
