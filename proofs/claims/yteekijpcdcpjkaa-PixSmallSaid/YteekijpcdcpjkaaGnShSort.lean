import Derived.Test.YteekijpcdcpjkaaAbSort
import Derived.Test.YteekijpcdcpjkaaLays
set_option linter.unusedVariables false
namespace Go.Proofs.Yteekijpcdcpjkaa
open Go Go.Ab
theorem sort_sound : SoundIn Try.prog 42 sortJ := sortJ_sound (Go.Ab.enters_of Try.func42 (by kernel_rfl) (by kernel_rfl)) (fun p cap w => Any.slices_Sort_int_none lays189 p cap w) (fun blk off cap zs w h1 h2 h3 => Any.slices_Sort_int lays189 blk off cap zs w h1 h2 h3)
theorem compact_sound : SoundIn Try.prog 43 compactJ := compactJ_sound (Go.Ab.enters_of Try.func43 (by kernel_rfl) (by kernel_rfl)) (fun p cap w => Any.slices_Compact_int_empty laysNm220 p cap w) (fun blk off cap zs w h1 h2 h3 => Any.slices_Compact_int laysNm220 blk off cap zs w h1 h2 h3)
end Go.Proofs.Yteekijpcdcpjkaa
