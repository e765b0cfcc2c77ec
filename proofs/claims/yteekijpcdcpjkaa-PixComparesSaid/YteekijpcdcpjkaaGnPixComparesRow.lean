/- Small and Apart of package pix return what the reference returns, for every two pictures and every side. -/
import Derived.Test.YteekijpcdcpjkaaAbRow
import Derived.Test.YteekijpcdcpjkaaGn1
import Derived.Test.YteekijpcdcpjkaaPuPixCompares
import Derived.JoinedOf
import Derived.Handed
import Derived.JoinedCond
set_option linter.unusedVariables false
namespace Go.Proofs.Yteekijpcdcpjkaa.pixCompares
open Go.ChangeShapes Go.WideShapes Go.ChangeAt Go.RowKit Go.Ab

theorem own : ownKnob Try.prog.godebug = none := by kernel_rfl

theorem contract (H : Type) (enc : TypeId × Value → H) (W : World) (base : Nat) (args : Array Value) (ds gs : List (DataW H)) (before : List MemPlace)
    (hval : ∀ (j : Nat) t v, Try.f7.params[j]? = some t → args[j]? = some v → Value.okWide Try.prog W .any base t v)
    (hW : DataW.Whole enc Try.prog Try.f7.params.toList Rows.pixComparesSpec.vars false W args.toList ds gs before) :
    Calls Try.prog 7 args W fun e W' => ∃ v, e = .returned v ∧ Rows.pixComparesSpec.post enc Try.prog Try.f7 false true false false W args v W' := by
  obtain ⟨N, hN⟩ : ∃ N : Nat, 1048577 < N := ⟨_, Nat.lt_succ_self _⟩
  refine law_post (wracklaw2_PixCompares.sound N) (τs := [(.pair (.int .i64) (.pair (.int .i64) (.slice (.int .u8)))), (.pair (.int .i64) (.pair (.int .i64) (.slice (.int .u8)))), (.int .i64)]) (tb := 4) (m := 16) rfl rfl rfl rfl rfl (by kernel_rfl) (by kernel_rfl) Try.underlying4 rfl (fun hg hl => ?_) hval hW (B := Rows.uptoBulkAll (ds ++ gs)) (Nat.le_refl _) (fun x hok hb => ?_)
  · subst hg
    rw [Try.params7] at hl
    match ds, hl with
    | [d0, d1, d2], _ => rfl
  · exact pixCompares_true N x.1 x.2.1 x.2.2 hN (ok_bytes hok.1.2.2) (ok_bytes hok.2.1.2.2)

set_option maxRecDepth 100000 in
theorem lifted (os : Os) (started : os.Started) (H : Type) (enc : TypeId × Value → H) :
    ReturnsInHanded {} Try.checked os 7 .any (Rows.pixComparesSpec.pre6 enc Try.prog Try.f7 Rows.pixComparesRow.domain false) (Rows.pixComparesSpec.post enc Try.prog Try.f7 false true false false) := by
  refine returnsInHanded_of_change (C := Try.checked) own started (by kernel_rfl) Try.func7
    (ChangeSpec.witness6 (enc := enc) (C := Try.checked) false ⟨#[], #[.agg #[.int .i64 0, .int .i64 0, .slice none 0 0], .agg #[.int .i64 0, .int .i64 0, .slice none 0 0], .int .i64 0], []⟩ 8 (by kernel_rfl) (by kernel_rfl) (by kernel_rfl) (by kernel_rfl)) ?_
  intro W base args ds gs before hval hW _ _
  exact contract H enc W base args ds gs before hval hW

theorem over : Rows.pixComparesRow.holds Try.pinned (OpenSpec.ofChange Rows.pixComparesSpec) :=
  OpenClaim.holds_of_wide 7 Try.f7 rfl rfl rfl rfl rfl rfl rfl ⟨rfl, rfl, rfl, rfl, rfl⟩ rfl rfl rfl rfl rfl (by kernel_rfl) Try.func7 (by kernel_rfl)
    (of_decide_eq_true (by kernel_rfl)) (by unfold Func.isWrapper; first | (rw [if_pos (by decide +kernel)]; kernel_rfl) | (rw [if_neg (by decide +kernel)]; exact ⟨rfl, rfl⟩))
    (fun os started H enc _ => lifted os started H enc)

theorem proved : Rows.PixComparesSaid :=
  over
end Go.Proofs.Yteekijpcdcpjkaa.pixCompares
