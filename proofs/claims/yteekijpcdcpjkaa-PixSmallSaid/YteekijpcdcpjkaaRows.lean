/-
  No cell of these rows narrows 'for every input' (looked for: loops, veiled, ifaces, maps, wideKeys, modest, calm, conditions, laid).
  DERIVED. THE GIVEN ROWS OF THIS SEAT. 6 by the template 'for every input the law returns true; each argument reads behind the call as it read before'; 0 by the template 'total and deterministic' (their statements: YteekijpcdcpjkaaTotals.lean).
  GIVEN WITH THE SEED: the statements are not yours to turn. If you find one false, say at which input.
  Laid BY PROGRAM, IN A SANDBOX (cutbox-rows.mjs): the forced cells as the released guide's own fill.sh prints them over the translation e2731ea2d78ebda5… (all of the seat's roots in one cut). By AI agents, Wed Nov 11 2026. No macro, syntax, notation, axiom, sorry.
-/
import Derived.Test.YteekijpcdcpjkaaChecked
import GoSem.Claim
import GoSem.ClaimJoined
import GoSem.ClaimMapViews
import Derived.JoinedTies
import Derived.KernelRfl
namespace Go.Proofs.Yteekijpcdcpjkaa
/- THE CELL 'sum', in the pinned program and in every row, IS THE sha256 OF THE DUMP (.gsa) THAT YteekijpcdcpjkaaProg.lean LOADS. Nothing in Lean hashes anything: it is a label: what it is worth is what the hold of that sum in a sandbox is worth. -/
noncomputable def Try.pinned : Pinned := { name := "yteekijpcdcpjkaa", sum := "e2731ea2d78ebda521305aab43c4a2533762855572c310aab384ed5f651a1e16", checked := Try.checked }
namespace Rows
def none {H : Type} : Left H := { results := [], args := [] }

/-- 'wracklaw2.PixMakes': WHATEVER THE INPUT: true; the input reads as it did. -/
def pixMakesSpec : ChangeSpec := { name := "pixMakes", fn := fun _ => fun
  | [d] => { results := [.lit (.bool true)], args := [d] }
  | _ => none }
def pixMakesRow : OpenClaim := { program := "yteekijpcdcpjkaa", sum := "e2731ea2d78ebda521305aab43c4a2533762855572c310aab384ed5f651a1e16", func := "wrackline/wracklaw2.PixMakes", spec := "pixMakes", unfollowed := true, recurses := true, apart := false }
def PixMakesSaid : Prop := pixMakesRow.holds Try.pinned (OpenSpec.ofChange pixMakesSpec)

/-- ITS FALSE NEIGHBOUR: 'it returns false'. Refute it at one input. -/
def pixMakesWrong : ChangeSpec := { name := "pixMakes", fn := fun _ => fun
  | [d] => { results := [.lit (.bool false)], args := [d] }
  | _ => none }
def PixMakesWrongFalsely : Prop := pixMakesRow.holds Try.pinned (OpenSpec.ofChange pixMakesWrong)

/-- 'wracklaw2.ArchPacks': WHATEVER THE INPUT: true; the input reads as it did. -/
def archPacksSpec : ChangeSpec := { name := "archPacks", fn := fun _ => fun
  | [d1, d2] => { results := [.lit (.bool true)], args := [d1, d2] }
  | _ => none }
def archPacksRow : OpenClaim := { program := "yteekijpcdcpjkaa", sum := "e2731ea2d78ebda521305aab43c4a2533762855572c310aab384ed5f651a1e16", func := "wrackline/wracklaw2.ArchPacks", spec := "archPacks", apart := false }
def ArchPacksSaid : Prop := archPacksRow.holds Try.pinned (OpenSpec.ofChange archPacksSpec)

/-- ITS FALSE NEIGHBOUR: 'it returns false'. Refute it at one input. -/
def archPacksWrong : ChangeSpec := { name := "archPacks", fn := fun _ => fun
  | [d1, d2] => { results := [.lit (.bool false)], args := [d1, d2] }
  | _ => none }
def ArchPacksWrongFalsely : Prop := archPacksRow.holds Try.pinned (OpenSpec.ofChange archPacksWrong)

/-- 'wracklaw2.PixReads': WHATEVER THE INPUT: true; the input reads as it did. -/
def pixReadsSpec : ChangeSpec := { name := "pixReads", fn := fun _ => fun
  | [d] => { results := [.lit (.bool true)], args := [d] }
  | _ => none }
def pixReadsRow : OpenClaim := { program := "yteekijpcdcpjkaa", sum := "e2731ea2d78ebda521305aab43c4a2533762855572c310aab384ed5f651a1e16", func := "wrackline/wracklaw2.PixReads", spec := "pixReads", unfollowed := true, recurses := true, apart := false }
def PixReadsSaid : Prop := pixReadsRow.holds Try.pinned (OpenSpec.ofChange pixReadsSpec)

/-- ITS FALSE NEIGHBOUR: 'it returns false'. Refute it at one input. -/
def pixReadsWrong : ChangeSpec := { name := "pixReads", fn := fun _ => fun
  | [d] => { results := [.lit (.bool false)], args := [d] }
  | _ => none }
def PixReadsWrongFalsely : Prop := pixReadsRow.holds Try.pinned (OpenSpec.ofChange pixReadsWrong)

/-- 'wrackkeep2.PixBack': WHATEVER THE INPUT: true; the input reads as it did. -/
def pixBackSpec : ChangeSpec := { name := "pixBack", fn := fun _ => fun
  | [d1, d2, d3] => { results := [.lit (.bool true)], args := [d1, d2, d3] }
  | _ => none }
def pixBackRow : OpenClaim := { program := "yteekijpcdcpjkaa", sum := "e2731ea2d78ebda521305aab43c4a2533762855572c310aab384ed5f651a1e16", func := "wrackline/wrackkeep2.PixBack", spec := "pixBack", unfollowed := true, recurses := true, apart := false }
def PixBackSaid : Prop := pixBackRow.holds Try.pinned (OpenSpec.ofChange pixBackSpec)

/-- ITS FALSE NEIGHBOUR: 'it returns false'. Refute it at one input. -/
def pixBackWrong : ChangeSpec := { name := "pixBack", fn := fun _ => fun
  | [d1, d2, d3] => { results := [.lit (.bool false)], args := [d1, d2, d3] }
  | _ => none }
def PixBackWrongFalsely : Prop := pixBackRow.holds Try.pinned (OpenSpec.ofChange pixBackWrong)

/-- 'wracklaw2.PixCompares': WHATEVER THE INPUT: true; the input reads as it did. -/
def pixComparesSpec : ChangeSpec := { name := "pixCompares", fn := fun _ => fun
  | [d1, d2, d3] => { results := [.lit (.bool true)], args := [d1, d2, d3] }
  | _ => none }
def pixComparesRow : OpenClaim := { program := "yteekijpcdcpjkaa", sum := "e2731ea2d78ebda521305aab43c4a2533762855572c310aab384ed5f651a1e16", func := "wrackline/wracklaw2.PixCompares", spec := "pixCompares", unfollowed := true, recurses := true, apart := false }
def PixComparesSaid : Prop := pixComparesRow.holds Try.pinned (OpenSpec.ofChange pixComparesSpec)

/-- ITS FALSE NEIGHBOUR: 'it returns false'. Refute it at one input. -/
def pixComparesWrong : ChangeSpec := { name := "pixCompares", fn := fun _ => fun
  | [d1, d2, d3] => { results := [.lit (.bool false)], args := [d1, d2, d3] }
  | _ => none }
def PixComparesWrongFalsely : Prop := pixComparesRow.holds Try.pinned (OpenSpec.ofChange pixComparesWrong)

/-- 'wrackkeep2.PixSmall': WHATEVER THE INPUT: true; the input reads as it did. -/
def pixSmallSpec : ChangeSpec := { name := "pixSmall", fn := fun _ => fun
  | [d1, d2, d3] => { results := [.lit (.bool true)], args := [d1, d2, d3] }
  | _ => none }
def pixSmallRow : OpenClaim := { program := "yteekijpcdcpjkaa", sum := "e2731ea2d78ebda521305aab43c4a2533762855572c310aab384ed5f651a1e16", func := "wrackline/wrackkeep2.PixSmall", spec := "pixSmall", unfollowed := true, recurses := true, apart := false }
def PixSmallSaid : Prop := pixSmallRow.holds Try.pinned (OpenSpec.ofChange pixSmallSpec)

/-- ITS FALSE NEIGHBOUR: 'it returns false'. Refute it at one input. -/
def pixSmallWrong : ChangeSpec := { name := "pixSmall", fn := fun _ => fun
  | [d1, d2, d3] => { results := [.lit (.bool false)], args := [d1, d2, d3] }
  | _ => none }
def PixSmallWrongFalsely : Prop := pixSmallRow.holds Try.pinned (OpenSpec.ofChange pixSmallWrong)

/- THE SECOND FORM. 'bulk': how many values and letters a reading holds, each counted each time it is reached (what is shared counts as often as it is met; a slice's spare places count too). A statement '..UptoSaid' is the law's where the arguments, and the package variables that the reading takes, are together of bulk at most 1048576: NARROWER than '..Said'. Prove '..Said' where nothing that the law and all that it calls make is longer than what came in: it says more and counts as full. Else prove '..UptoSaid'. A law counts once. -/
mutual
def uptoBulk {H : Type} : DataW H → Nat
  | .lit (.string bytes) => bytes.length + 1
  | .lit _ => 1
  | .nil => 1
  | .ptr d => uptoBulk d + 1
  | .slice elems spare => uptoBulkAll elems + uptoBulkAll spare + 1
  | .agg parts => uptoBulkAll parts + 1
  | .iface _ d => uptoBulk d + 1
  | .map entries => uptoBulkEntries entries + 1
  | .held _ => 1
def uptoBulkAll {H : Type} : List (DataW H) → Nat
  | [] => 0
  | d :: r => uptoBulk d + uptoBulkAll r
def uptoBulkEntries {H : Type} : List (Lit × DataW H) → Nat
  | [] => 0
  | x :: r => uptoBulkEntry x + uptoBulkEntries r
def uptoBulkEntry {H : Type} : Lit × DataW H → Nat
  | (.string bytes, d) => bytes.length + uptoBulk d + 1
  | (_, d) => uptoBulk d + 1
 end
def uptoSmall : (H : Type) → List (DataW H) → Bool := fun _ ds => decide (uptoBulkAll ds ≤ 1048576)
def OpenSpec.upto (s : _root_.Go.ChangeSpec) : _root_.Go.OpenSpec := { _root_.Go.OpenSpec.ofChange s with cond := some uptoSmall }

/-- 'wracklaw2.PixMakes', WHERE WHAT IT READS IS OF BULK AT MOST 1048576: true; the input reads as it did. -/
def pixMakesUptoRow : OpenClaim := { program := "yteekijpcdcpjkaa", sum := "e2731ea2d78ebda521305aab43c4a2533762855572c310aab384ed5f651a1e16", func := "wrackline/wracklaw2.PixMakes", spec := "pixMakes", unfollowed := true, recurses := true, apart := false, narrowed := true }
def PixMakesUptoSaid : Prop := pixMakesUptoRow.holds Try.pinned (OpenSpec.upto pixMakesSpec)

/-- 'wracklaw2.ArchPacks', WHERE WHAT IT READS IS OF BULK AT MOST 1048576: true; the input reads as it did. -/
def archPacksUptoRow : OpenClaim := { program := "yteekijpcdcpjkaa", sum := "e2731ea2d78ebda521305aab43c4a2533762855572c310aab384ed5f651a1e16", func := "wrackline/wracklaw2.ArchPacks", spec := "archPacks", apart := false, narrowed := true }
def ArchPacksUptoSaid : Prop := archPacksUptoRow.holds Try.pinned (OpenSpec.upto archPacksSpec)

/-- 'wracklaw2.PixReads', WHERE WHAT IT READS IS OF BULK AT MOST 1048576: true; the input reads as it did. -/
def pixReadsUptoRow : OpenClaim := { program := "yteekijpcdcpjkaa", sum := "e2731ea2d78ebda521305aab43c4a2533762855572c310aab384ed5f651a1e16", func := "wrackline/wracklaw2.PixReads", spec := "pixReads", unfollowed := true, recurses := true, apart := false, narrowed := true }
def PixReadsUptoSaid : Prop := pixReadsUptoRow.holds Try.pinned (OpenSpec.upto pixReadsSpec)

/-- 'wrackkeep2.PixBack', WHERE WHAT IT READS IS OF BULK AT MOST 1048576: true; the input reads as it did. -/
def pixBackUptoRow : OpenClaim := { program := "yteekijpcdcpjkaa", sum := "e2731ea2d78ebda521305aab43c4a2533762855572c310aab384ed5f651a1e16", func := "wrackline/wrackkeep2.PixBack", spec := "pixBack", unfollowed := true, recurses := true, apart := false, narrowed := true }
def PixBackUptoSaid : Prop := pixBackUptoRow.holds Try.pinned (OpenSpec.upto pixBackSpec)

/-- 'wracklaw2.PixCompares', WHERE WHAT IT READS IS OF BULK AT MOST 1048576: true; the input reads as it did. -/
def pixComparesUptoRow : OpenClaim := { program := "yteekijpcdcpjkaa", sum := "e2731ea2d78ebda521305aab43c4a2533762855572c310aab384ed5f651a1e16", func := "wrackline/wracklaw2.PixCompares", spec := "pixCompares", unfollowed := true, recurses := true, apart := false, narrowed := true }
def PixComparesUptoSaid : Prop := pixComparesUptoRow.holds Try.pinned (OpenSpec.upto pixComparesSpec)

/-- 'wrackkeep2.PixSmall', WHERE WHAT IT READS IS OF BULK AT MOST 1048576: true; the input reads as it did. -/
def pixSmallUptoRow : OpenClaim := { program := "yteekijpcdcpjkaa", sum := "e2731ea2d78ebda521305aab43c4a2533762855572c310aab384ed5f651a1e16", func := "wrackline/wrackkeep2.PixSmall", spec := "pixSmall", unfollowed := true, recurses := true, apart := false, narrowed := true }
def PixSmallUptoSaid : Prop := pixSmallUptoRow.holds Try.pinned (OpenSpec.upto pixSmallSpec)

end Rows
end Go.Proofs.Yteekijpcdcpjkaa
