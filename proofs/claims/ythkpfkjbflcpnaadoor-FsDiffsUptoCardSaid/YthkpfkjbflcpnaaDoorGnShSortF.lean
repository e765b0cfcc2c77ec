import Derived.Test.YthkpfkjbflcpnaaDoorAbSortStr
import Derived.Test.YthkpfkjbflcpnaaDoorLays
import Derived.KernelRfl
import Derived.Deep.RegionWith
set_option linter.unusedVariables false
set_option maxRecDepth 100000
namespace Go.Proofs.YthkpfkjbflcpnaaDoor
open Go Go.Ab Go.Shelf Go.RowKit Go.Lib Go.Sort
abbrev SortA30 : Type := Int × ByteArray
def sortE30 (x : SortA30) : List Value := [.int .u8 x.1, .string x.2]
def SortK30 (x : Ty.den (.pair (.int .u8) .str)) (a : SortA30) : Prop := x.2 = bytesOf a.2
theorem sortD30 (w : World) (O : Nat → Prop) (x : Ty.den (.pair (.int .u8) .str)) (cs : List Value) (h : VRel w O (.pair (.int .u8) .str) x cs) : ∃ a, sortE30 a = cs ∧ SortK30 x a := by
  obtain ⟨xa, xb⟩ := x
  obtain ⟨c1a, c1b, rfl, h1a, h1b⟩ := h
  obtain ⟨rfl, _⟩ := h1a
  obtain ⟨s1, rfl, hs1, _⟩ := h1b
  exact ⟨(xa, s1), rfl, hs1⟩
set_option maxHeartbeats 1000000 in
theorem sortC30 (x y : SortA30) (W : World) : Calls Tryd.prog 31 #[.agg (sortE30 x).toArray, .agg (sortE30 y).toArray] W fun e w' => e = .returned (.int .i64 (Lib.compareBytes x.2.data.toList y.2.data.toList)) ∧ ∃ q os', w' = grow (W.drewN q) os' := by
  have hcon := fun W' => Any.strings_Compare lays106 x.2 y.2 W'
  change ∀ W', Calls Tryd.prog 32 _ _ _ at hcon
  generalize Lib.compareBytes x.2.data.toList y.2.data.toList = r at hcon ⊢
  unfold sortE30
  go_enter Tryd.func31, Tryd.ntmps31
  go_wp2_with (go_at_call 32; refine (hcon _).mono ?_; rintro e w' ⟨rfl, rfl⟩)
  go_ret
  exact ⟨rfl, 0, _, by rw [alloc_eq_grow, alloc_eq_grow, grow_grow]; rfl⟩
theorem sortf30_sound : SoundIn Tryd.prog 30 (sortFJ (.pair (.int .u8) .str) 31 (fun (x y : Int × List Int) => strLess x.2 y.2)) := by
  have hlt : ltOf (fun x y : SortA30 => Lib.compareBytes x.2.data.toList y.2.data.toList) = fun x y => strLess (bytesOf x.2) (bytesOf y.2) := ltOf_bytes fun x : SortA30 => x.2
  refine sortFJ_sound (α := SortA30) (enc := sortE30) (ltA := ltOf (fun x y : SortA30 => Lib.compareBytes x.2.data.toList y.2.data.toList)) (Go.Ab.enters_of Tryd.func30 (by kernel_rfl) (by kernel_rfl)) (by decide) (LtOK.by strLess_ok fun x : Int × List Int => x.2) (fun _ => rfl) SortK30 sortD30 ?_ ?_ ?_
  · intro x y a b h1 h2
    rw [hlt]
    unfold SortK30 at h1 h2
    simp only [h1, h2]
  · exact fun p cap fv w => AnyF.slices_SortFunc_none sortq30 p cap fv w
  · exact fun blk off cap d w h1 h2 h3 => AnyQ.slices_SortFunc sortq30 2 Tryd.isAgg49 Tryd.sizeOf49 sortE30 (fun _ => rfl) (fun x v hv => by simp [sortE30] at hv; rcases hv with rfl | rfl <;> rfl) (fun x y : SortA30 => Lib.compareBytes x.2.data.toList y.2.data.toList) (by rw [hlt]; exact (LtOK.by strLess_ok fun x : SortA30 => bytesOf x.2).swo) 31 #[] blk off cap d w (Go.Ab.enters_of Tryd.func31 (by kernel_rfl) (by kernel_rfl)) (fun _ _ _ _ x y => sortC30 x y _) h1 h2 h3
end Go.Proofs.YthkpfkjbflcpnaaDoor
