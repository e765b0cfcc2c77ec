/- PixReads: Read returns what chapter 45 specifies. -/
import Derived.Test.YteekijpcdcpjkaaAbRow
import Derived.Test.YteekijpcdcpjkaaGn1
import Derived.Test.YteekijpcdcpjkaaPuPixRead
import Derived.JoinedOf
import Derived.Handed
import Derived.JoinedCond
set_option linter.unusedVariables false
namespace Go.Proofs.Yteekijpcdcpjkaa.pixReads
open Go.ChangeShapes Go.WideShapes Go.ChangeAt Go.RowKit Go.Ab

theorem own : ownKnob Try.prog.godebug = none := by kernel_rfl

theorem contract (H : Type) (enc : TypeId × Value → H) (W : World) (base : Nat) (args : Array Value) (ds gs : List (DataW H)) (before : List MemPlace)
    (hval : ∀ (j : Nat) t v, Try.f5.params[j]? = some t → args[j]? = some v → Value.okWide Try.prog W .any base t v)
    (hW : DataW.Whole enc Try.prog Try.f5.params.toList Rows.pixReadsSpec.vars false W args.toList ds gs before) :
    Calls Try.prog 5 args W fun e W' => ∃ v, e = .returned v ∧ Rows.pixReadsSpec.post enc Try.prog Try.f5 false true false false W args v W' := by
  obtain ⟨N, hN⟩ : ∃ N : Nat, 1048577 < N := ⟨_, Nat.lt_succ_self _⟩
  refine law_post (wracklaw2_PixReads.sound N) (τs := [(.slice (.int .u8))]) (tb := 4) (m := 16) rfl rfl rfl rfl rfl (by kernel_rfl) (by kernel_rfl) Try.underlying4 rfl (fun hg hl => ?_) hval hW (B := Rows.uptoBulkAll (ds ++ gs)) (Nat.le_refl _) (fun x hok hb => ?_)
  · subst hg
    rw [Try.params5] at hl
    match ds, hl with
    | [d0], _ => rfl
  · exact pixReads_true N x hN (ok_bytes hok)

set_option maxRecDepth 100000 in
theorem lifted (os : Os) (started : os.Started) (H : Type) (enc : TypeId × Value → H) :
    ReturnsInHanded {} Try.checked os 5 .any (Rows.pixReadsSpec.pre6 enc Try.prog Try.f5 Rows.pixReadsRow.domain false) (Rows.pixReadsSpec.post enc Try.prog Try.f5 false true false false) := by
  refine returnsInHanded_of_change (C := Try.checked) own started (by kernel_rfl) Try.func5
    (ChangeSpec.witness6 (enc := enc) (C := Try.checked) false ⟨#[], #[.slice none 0 0], []⟩ 8 (by kernel_rfl) (by kernel_rfl) (by kernel_rfl) (by kernel_rfl)) ?_
  intro W base args ds gs before hval hW _ _
  exact contract H enc W base args ds gs before hval hW

theorem over : Rows.pixReadsRow.holds Try.pinned (OpenSpec.ofChange Rows.pixReadsSpec) :=
  OpenClaim.holds_of_wide 5 Try.f5 rfl rfl rfl rfl rfl rfl rfl ⟨rfl, rfl, rfl, rfl, rfl⟩ rfl rfl rfl rfl rfl (by kernel_rfl) Try.func5 (by kernel_rfl)
    (of_decide_eq_true (by kernel_rfl)) (by unfold Func.isWrapper; first | (rw [if_pos (by decide +kernel)]; kernel_rfl) | (rw [if_neg (by decide +kernel)]; exact ⟨rfl, rfl⟩))
    (fun os started H enc _ => lifted os started H enc)

theorem proved : Rows.PixReadsSaid :=
  over
end Go.Proofs.Yteekijpcdcpjkaa.pixReads
