/- With squares of one dot a picture is itself; a picture in which one dot is changed differs in its square alone; a small picture of one color has this color: for every list of numbers that is drawn from. -/
import Derived.Test.YteekijpcdcpjkaaAbRow
import Derived.Test.YteekijpcdcpjkaaGn1
import Derived.Test.YteekijpcdcpjkaaPuPixOne
import Derived.JoinedOf
import Derived.Handed
import Derived.JoinedCond
set_option linter.unusedVariables false
namespace Go.Proofs.Yteekijpcdcpjkaa.pixSmall
open Go.ChangeShapes Go.WideShapes Go.ChangeAt Go.RowKit Go.Ab

theorem own : ownKnob Try.prog.godebug = none := by kernel_rfl

theorem contract (H : Type) (enc : TypeId × Value → H) (W : World) (base : Nat) (args : Array Value) (ds gs : List (DataW H)) (before : List MemPlace)
    (hval : ∀ (j : Nat) t v, Try.f8.params[j]? = some t → args[j]? = some v → Value.okWide Try.prog W .any base t v)
    (hW : DataW.Whole enc Try.prog Try.f8.params.toList Rows.pixSmallSpec.vars false W args.toList ds gs before) :
    Calls Try.prog 8 args W fun e W' => ∃ v, e = .returned v ∧ Rows.pixSmallSpec.post enc Try.prog Try.f8 false true false false W args v W' := by
  obtain ⟨N, hN⟩ : ∃ N : Nat, 1048577 < N := ⟨_, Nat.lt_succ_self _⟩
  refine law_post (wrackkeep2_PixSmall.sound N) (τs := [(.slice (.int .i64)), (.int .i64), (.int .i64)]) (tb := 4) (m := 16) rfl rfl rfl rfl rfl (by kernel_rfl) (by kernel_rfl) Try.underlying4 rfl (fun hg hl => ?_) hval hW (B := Rows.uptoBulkAll (ds ++ gs)) (Nat.le_refl _) (fun x hok hb => ?_)
  · subst hg
    rw [Try.params8] at hl
    match ds, hl with
    | [d0, d1, d2], _ => rfl
  · exact pixSmall_true N x.1 x.2.1 x.2.2 hN

set_option maxRecDepth 100000 in
theorem lifted (os : Os) (started : os.Started) (H : Type) (enc : TypeId × Value → H) :
    ReturnsInHanded {} Try.checked os 8 .any (Rows.pixSmallSpec.pre6 enc Try.prog Try.f8 Rows.pixSmallRow.domain false) (Rows.pixSmallSpec.post enc Try.prog Try.f8 false true false false) := by
  refine returnsInHanded_of_change (C := Try.checked) own started (by kernel_rfl) Try.func8
    (ChangeSpec.witness6 (enc := enc) (C := Try.checked) false ⟨#[], #[.slice none 0 0, .int .i64 0, .int .i64 0], []⟩ 8 (by kernel_rfl) (by kernel_rfl) (by kernel_rfl) (by kernel_rfl)) ?_
  intro W base args ds gs before hval hW _ _
  exact contract H enc W base args ds gs before hval hW

theorem over : Rows.pixSmallRow.holds Try.pinned (OpenSpec.ofChange Rows.pixSmallSpec) :=
  OpenClaim.holds_of_wide 8 Try.f8 rfl rfl rfl rfl rfl rfl rfl ⟨rfl, rfl, rfl, rfl, rfl⟩ rfl rfl rfl rfl rfl (by kernel_rfl) Try.func8 (by kernel_rfl)
    (of_decide_eq_true (by kernel_rfl)) (by unfold Func.isWrapper; first | (rw [if_pos (by decide +kernel)]; kernel_rfl) | (rw [if_neg (by decide +kernel)]; exact ⟨rfl, rfl⟩))
    (fun os started H enc _ => lifted os started H enc)

theorem proved : Rows.PixSmallSaid :=
  over
end Go.Proofs.Yteekijpcdcpjkaa.pixSmall
