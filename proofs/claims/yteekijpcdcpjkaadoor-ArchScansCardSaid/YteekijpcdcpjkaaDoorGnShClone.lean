import Derived.Test.YteekijpcdcpjkaaDoorAbClone
import Derived.Test.YteekijpcdcpjkaaDoorLays
import Derived.KernelRfl
set_option linter.unusedVariables false
set_option maxRecDepth 100000
namespace Go.Proofs.YteekijpcdcpjkaaDoor
open Go Go.Ab
theorem clone25_sound : SoundQ Tryd.prog 25 (cloneQ (.pair .str (.slice (.int .u8))) 40) := by
  obtain ⟨i0, hi⟩ := Option.isSome_iff_exists.1 (show (Tryd.prog.info? 40).isSome = true by kernel_rfl)
  obtain ⟨z, hz⟩ : ∃ z, i0.zero = some z := by
    have h : ((Tryd.prog.info? 40).bind (·.zero)).isSome = true := by kernel_rfl
    rw [hi] at h
    exact Option.isSome_iff_exists.1 h
  have h1 : i0.size = 2 := by
    have h : (Tryd.prog.info? 40).map (·.size) = some 2 := by kernel_rfl
    rw [hi] at h
    exact Option.some.inj h
  have h2 : i0.bytes = 40 := by
    have h : (Tryd.prog.info? 40).map (·.bytes) = some 40 := by kernel_rfl
    rw [hi] at h
    exact Option.some.inj h
  have h3 : z.cells.size = 2 := by
    have h : ((Tryd.prog.info? 40).bind (·.zero)).map (·.cells.size) = some 2 := by kernel_rfl
    rw [hi] at h
    have h : i0.zero.map (·.cells.size) = some 2 := h
    rw [hz] at h
    exact Option.some.inj h
  exact cloneQ_sound (T := 40) (Go.Ab.enters_of Tryd.func25 (by kernel_rfl) (by kernel_rfl)) (by decide) (fun n c w => AnyE.slices_Clone_nil clone25 n c w) (fun blk off n c news w q1 q2 q3 q4 q5 => AnyE.slices_Clone clone25 i0 z 2 40 hi hz h1 h2 h3 (by decide) Tryd.sizeOf40 blk off n c news w q1 q2 q3 q4 q5)
end Go.Proofs.YteekijpcdcpjkaaDoor
