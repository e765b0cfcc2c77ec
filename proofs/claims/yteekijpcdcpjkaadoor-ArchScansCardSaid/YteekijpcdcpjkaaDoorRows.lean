/-
  NARROWER THAN 'FOR EVERY INPUT', by the rows' own cells (each row's printed sentence says how): ArchEnds: laid · ArchBack: laid · ArchMakes: laid · ArchScans: laid · ArchReads: laid.
  DERIVED. THE GIVEN ROWS OF THIS SEAT. 5 by the template 'for every input the law returns true; each argument reads behind the call as it read before'; 0 by the template 'total and deterministic' (their statements: YteekijpcdcpjkaaDoorTotals.lean).
  GIVEN WITH THE SEED: the statements are not yours to turn. If you find one false, say at which input.
  Laid BY PROGRAM, IN A SANDBOX (cutbox-rows.mjs): the forced cells as the released guide's own fill.sh prints them over the translation 35ac31b246e3dda9… (all of the seat's roots in one cut). By AI agents, Wed Nov 11 2026. No macro, syntax, notation, axiom, sorry.
-/
import Derived.Test.YteekijpcdcpjkaaDoorChecked
import GoSem.PinnedTables
import GoSem.Claim
import GoSem.ClaimJoined
import GoSem.ClaimMapViews
import Derived.JoinedTies
import Derived.KernelRfl
namespace Go.Proofs.YteekijpcdcpjkaaDoor
/- THE CELL 'sum', in the pinned program and in every row, IS THE sha256 OF THE DUMP (.gsa) THAT YteekijpcdcpjkaaDoorProg.lean LOADS. Nothing in Lean hashes anything: it is a label: what it is worth is what the hold of that sum in a sandbox is worth. -/
noncomputable def Tryd.pinned : Pinned := { name := "yteekijpcdcpjkaadoor", sum := "35ac31b246e3dda97d5a3f5e2688cd12c797e1f5457a790b9edb62317fb28518", checked := Tryd.checked }
namespace Rows
def none {H : Type} : Left H := { results := [], args := [] }

/- WHAT THE LISTED PACKAGE-LEVEL VARIABLES READ AS WHEN THE CALL BEGINS. Each datum BY PROGRAM (the guide's laid-datum.mjs) off the statement by which the dump's own 'gosem.cut.vars' lays the variable. In a bare row this is a premise. The card (YteekijpcdcpjkaaDoorCards.lean) ties it to the program's text. -/
def laid_unicode_utf8_acceptRanges {H : Type} : DataW H := .agg [.agg [.lit (.int .u8 128), .lit (.int .u8 191)], .agg [.lit (.int .u8 160), .lit (.int .u8 191)], .agg [.lit (.int .u8 128), .lit (.int .u8 159)], .agg [.lit (.int .u8 144), .lit (.int .u8 191)], .agg [.lit (.int .u8 128), .lit (.int .u8 143)], .agg [.lit (.int .u8 0), .lit (.int .u8 0)], .agg [.lit (.int .u8 0), .lit (.int .u8 0)], .agg [.lit (.int .u8 0), .lit (.int .u8 0)], .agg [.lit (.int .u8 0), .lit (.int .u8 0)], .agg [.lit (.int .u8 0), .lit (.int .u8 0)], .agg [.lit (.int .u8 0), .lit (.int .u8 0)], .agg [.lit (.int .u8 0), .lit (.int .u8 0)], .agg [.lit (.int .u8 0), .lit (.int .u8 0)], .agg [.lit (.int .u8 0), .lit (.int .u8 0)], .agg [.lit (.int .u8 0), .lit (.int .u8 0)], .agg [.lit (.int .u8 0), .lit (.int .u8 0)]]
/-- One of Go's own tables, pinned by name: the form's constant. -/
def laid_unicode_utf8_first : DataW Unit := Go.Pinned.utf8First

/-- 'wrackkeep2.ArchEnds': WHATEVER THE INPUT: true; the input reads as it did. -/
def archEndsSpec : ChangeSpec := { name := "archEnds", fn := fun _ => fun
  | [d1, d2] => { results := [.lit (.bool true)], args := [d1, d2] }
  | _ => none }
def archEndsRow : OpenClaim := { program := "yteekijpcdcpjkaadoor", sum := "35ac31b246e3dda97d5a3f5e2688cd12c797e1f5457a790b9edb62317fb28518", func := "wrackline/wrackkeep2.ArchEnds", spec := "archEnds", inPlace := ["internal/bytealg.CountString", "internal/bytealg.IndexByteString", "internal/bytealg.IndexString"], unfollowed := true, recurses := true, named := ["unicode/utf8.first", "unicode/utf8.acceptRanges", "internal/bytealg.MaxLen"], apart := false, laid := [("unicode/utf8.acceptRanges", laid_unicode_utf8_acceptRanges), ("unicode/utf8.first", laid_unicode_utf8_first)] }
def ArchEndsSaid : Prop := archEndsRow.holds Tryd.pinned (OpenSpec.ofChange archEndsSpec)

/-- ITS FALSE NEIGHBOUR: 'it returns false'. Refute it at one input. -/
def archEndsWrong : ChangeSpec := { name := "archEnds", fn := fun _ => fun
  | [d1, d2] => { results := [.lit (.bool false)], args := [d1, d2] }
  | _ => none }
def ArchEndsWrongFalsely : Prop := archEndsRow.holds Tryd.pinned (OpenSpec.ofChange archEndsWrong)

/-- 'wrackkeep2.ArchBack': WHATEVER THE INPUT: true; the input reads as it did. -/
def archBackSpec : ChangeSpec := { name := "archBack", fn := fun _ => fun
  | [d1, d2] => { results := [.lit (.bool true)], args := [d1, d2] }
  | _ => none }
def archBackRow : OpenClaim := { program := "yteekijpcdcpjkaadoor", sum := "35ac31b246e3dda97d5a3f5e2688cd12c797e1f5457a790b9edb62317fb28518", func := "wrackline/wrackkeep2.ArchBack", spec := "archBack", inPlace := ["internal/bytealg.CountString", "internal/bytealg.IndexByteString", "internal/bytealg.IndexString"], unfollowed := true, recurses := true, named := ["unicode/utf8.first", "unicode/utf8.acceptRanges", "internal/bytealg.MaxLen"], apart := false, laid := [("unicode/utf8.acceptRanges", laid_unicode_utf8_acceptRanges), ("unicode/utf8.first", laid_unicode_utf8_first)] }
def ArchBackSaid : Prop := archBackRow.holds Tryd.pinned (OpenSpec.ofChange archBackSpec)

/-- ITS FALSE NEIGHBOUR: 'it returns false'. Refute it at one input. -/
def archBackWrong : ChangeSpec := { name := "archBack", fn := fun _ => fun
  | [d1, d2] => { results := [.lit (.bool false)], args := [d1, d2] }
  | _ => none }
def ArchBackWrongFalsely : Prop := archBackRow.holds Tryd.pinned (OpenSpec.ofChange archBackWrong)

/-- 'wracklaw2.ArchMakes': WHATEVER THE INPUT: true; the input reads as it did. -/
def archMakesSpec : ChangeSpec := { name := "archMakes", fn := fun _ => fun
  | [d] => { results := [.lit (.bool true)], args := [d] }
  | _ => none }
def archMakesRow : OpenClaim := { program := "yteekijpcdcpjkaadoor", sum := "35ac31b246e3dda97d5a3f5e2688cd12c797e1f5457a790b9edb62317fb28518", func := "wrackline/wracklaw2.ArchMakes", spec := "archMakes", inPlace := ["internal/bytealg.CountString", "internal/bytealg.IndexByteString", "internal/bytealg.IndexString"], unfollowed := true, recurses := true, named := ["unicode/utf8.first", "unicode/utf8.acceptRanges", "internal/bytealg.MaxLen"], apart := false, laid := [("unicode/utf8.acceptRanges", laid_unicode_utf8_acceptRanges), ("unicode/utf8.first", laid_unicode_utf8_first)] }
def ArchMakesSaid : Prop := archMakesRow.holds Tryd.pinned (OpenSpec.ofChange archMakesSpec)

/-- ITS FALSE NEIGHBOUR: 'it returns false'. Refute it at one input. -/
def archMakesWrong : ChangeSpec := { name := "archMakes", fn := fun _ => fun
  | [d] => { results := [.lit (.bool false)], args := [d] }
  | _ => none }
def ArchMakesWrongFalsely : Prop := archMakesRow.holds Tryd.pinned (OpenSpec.ofChange archMakesWrong)

/-- 'wracklaw2.ArchScans': WHATEVER THE INPUT: true; the input reads as it did. -/
def archScansSpec : ChangeSpec := { name := "archScans", fn := fun _ => fun
  | [d] => { results := [.lit (.bool true)], args := [d] }
  | _ => none }
def archScansRow : OpenClaim := { program := "yteekijpcdcpjkaadoor", sum := "35ac31b246e3dda97d5a3f5e2688cd12c797e1f5457a790b9edb62317fb28518", func := "wrackline/wracklaw2.ArchScans", spec := "archScans", inPlace := ["internal/bytealg.CountString", "internal/bytealg.IndexByteString", "internal/bytealg.IndexString"], unfollowed := true, recurses := true, named := ["unicode/utf8.first", "unicode/utf8.acceptRanges", "internal/bytealg.MaxLen"], apart := false, laid := [("unicode/utf8.acceptRanges", laid_unicode_utf8_acceptRanges), ("unicode/utf8.first", laid_unicode_utf8_first)] }
def ArchScansSaid : Prop := archScansRow.holds Tryd.pinned (OpenSpec.ofChange archScansSpec)

/-- ITS FALSE NEIGHBOUR: 'it returns false'. Refute it at one input. -/
def archScansWrong : ChangeSpec := { name := "archScans", fn := fun _ => fun
  | [d] => { results := [.lit (.bool false)], args := [d] }
  | _ => none }
def ArchScansWrongFalsely : Prop := archScansRow.holds Tryd.pinned (OpenSpec.ofChange archScansWrong)

/-- 'wracklaw2.ArchReads': WHATEVER THE INPUT: true; the input reads as it did. -/
def archReadsSpec : ChangeSpec := { name := "archReads", fn := fun _ => fun
  | [d1, d2] => { results := [.lit (.bool true)], args := [d1, d2] }
  | _ => none }
def archReadsRow : OpenClaim := { program := "yteekijpcdcpjkaadoor", sum := "35ac31b246e3dda97d5a3f5e2688cd12c797e1f5457a790b9edb62317fb28518", func := "wrackline/wracklaw2.ArchReads", spec := "archReads", inPlace := ["internal/bytealg.CountString", "internal/bytealg.IndexByteString", "internal/bytealg.IndexString"], unfollowed := true, recurses := true, named := ["unicode/utf8.first", "unicode/utf8.acceptRanges", "internal/bytealg.MaxLen"], apart := false, laid := [("unicode/utf8.acceptRanges", laid_unicode_utf8_acceptRanges), ("unicode/utf8.first", laid_unicode_utf8_first)] }
def ArchReadsSaid : Prop := archReadsRow.holds Tryd.pinned (OpenSpec.ofChange archReadsSpec)

/-- ITS FALSE NEIGHBOUR: 'it returns false'. Refute it at one input. -/
def archReadsWrong : ChangeSpec := { name := "archReads", fn := fun _ => fun
  | [d1, d2] => { results := [.lit (.bool false)], args := [d1, d2] }
  | _ => none }
def ArchReadsWrongFalsely : Prop := archReadsRow.holds Tryd.pinned (OpenSpec.ofChange archReadsWrong)

/- THE SECOND FORM. 'bulk': how many values and letters a reading holds, each counted each time it is reached (what is shared counts as often as it is met; a slice's spare places count too). A statement '..UptoSaid' is the law's where the arguments, and the package variables that the reading takes, are together of bulk at most 1048576: NARROWER than '..Said'. Prove '..Said' where nothing that the law and all that it calls make is longer than what came in: it says more and counts as full. Else prove '..UptoSaid'. A law counts once. -/
mutual
def uptoBulk {H : Type} : DataW H → Nat
  | .lit (.string bytes) => bytes.length + 1
  | .lit _ => 1
  | .nil => 1
  | .ptr d => uptoBulk d + 1
  | .slice elems spare => uptoBulkAll elems + uptoBulkAll spare + 1
  | .agg parts => uptoBulkAll parts + 1
  | .iface _ d => uptoBulk d + 1
  | .map entries => uptoBulkEntries entries + 1
  | .held _ => 1
def uptoBulkAll {H : Type} : List (DataW H) → Nat
  | [] => 0
  | d :: r => uptoBulk d + uptoBulkAll r
def uptoBulkEntries {H : Type} : List (Lit × DataW H) → Nat
  | [] => 0
  | x :: r => uptoBulkEntry x + uptoBulkEntries r
def uptoBulkEntry {H : Type} : Lit × DataW H → Nat
  | (.string bytes, d) => bytes.length + uptoBulk d + 1
  | (_, d) => uptoBulk d + 1
 end
def uptoSmall : (H : Type) → List (DataW H) → Bool := fun _ ds => decide (uptoBulkAll ds ≤ 1048576)
def OpenSpec.upto (s : _root_.Go.ChangeSpec) : _root_.Go.OpenSpec := { _root_.Go.OpenSpec.ofChange s with cond := some uptoSmall }

/-- 'wrackkeep2.ArchEnds', WHERE WHAT IT READS IS OF BULK AT MOST 1048576: true; the input reads as it did. -/
def archEndsUptoRow : OpenClaim := { program := "yteekijpcdcpjkaadoor", sum := "35ac31b246e3dda97d5a3f5e2688cd12c797e1f5457a790b9edb62317fb28518", func := "wrackline/wrackkeep2.ArchEnds", spec := "archEnds", inPlace := ["internal/bytealg.CountString", "internal/bytealg.IndexByteString", "internal/bytealg.IndexString"], unfollowed := true, recurses := true, named := ["unicode/utf8.first", "unicode/utf8.acceptRanges", "internal/bytealg.MaxLen"], apart := false, laid := [("unicode/utf8.acceptRanges", laid_unicode_utf8_acceptRanges), ("unicode/utf8.first", laid_unicode_utf8_first)], narrowed := true }
def ArchEndsUptoSaid : Prop := archEndsUptoRow.holds Tryd.pinned (OpenSpec.upto archEndsSpec)

/-- 'wrackkeep2.ArchBack', WHERE WHAT IT READS IS OF BULK AT MOST 1048576: true; the input reads as it did. -/
def archBackUptoRow : OpenClaim := { program := "yteekijpcdcpjkaadoor", sum := "35ac31b246e3dda97d5a3f5e2688cd12c797e1f5457a790b9edb62317fb28518", func := "wrackline/wrackkeep2.ArchBack", spec := "archBack", inPlace := ["internal/bytealg.CountString", "internal/bytealg.IndexByteString", "internal/bytealg.IndexString"], unfollowed := true, recurses := true, named := ["unicode/utf8.first", "unicode/utf8.acceptRanges", "internal/bytealg.MaxLen"], apart := false, laid := [("unicode/utf8.acceptRanges", laid_unicode_utf8_acceptRanges), ("unicode/utf8.first", laid_unicode_utf8_first)], narrowed := true }
def ArchBackUptoSaid : Prop := archBackUptoRow.holds Tryd.pinned (OpenSpec.upto archBackSpec)

/-- 'wracklaw2.ArchMakes', WHERE WHAT IT READS IS OF BULK AT MOST 1048576: true; the input reads as it did. -/
def archMakesUptoRow : OpenClaim := { program := "yteekijpcdcpjkaadoor", sum := "35ac31b246e3dda97d5a3f5e2688cd12c797e1f5457a790b9edb62317fb28518", func := "wrackline/wracklaw2.ArchMakes", spec := "archMakes", inPlace := ["internal/bytealg.CountString", "internal/bytealg.IndexByteString", "internal/bytealg.IndexString"], unfollowed := true, recurses := true, named := ["unicode/utf8.first", "unicode/utf8.acceptRanges", "internal/bytealg.MaxLen"], apart := false, laid := [("unicode/utf8.acceptRanges", laid_unicode_utf8_acceptRanges), ("unicode/utf8.first", laid_unicode_utf8_first)], narrowed := true }
def ArchMakesUptoSaid : Prop := archMakesUptoRow.holds Tryd.pinned (OpenSpec.upto archMakesSpec)

/-- 'wracklaw2.ArchScans', WHERE WHAT IT READS IS OF BULK AT MOST 1048576: true; the input reads as it did. -/
def archScansUptoRow : OpenClaim := { program := "yteekijpcdcpjkaadoor", sum := "35ac31b246e3dda97d5a3f5e2688cd12c797e1f5457a790b9edb62317fb28518", func := "wrackline/wracklaw2.ArchScans", spec := "archScans", inPlace := ["internal/bytealg.CountString", "internal/bytealg.IndexByteString", "internal/bytealg.IndexString"], unfollowed := true, recurses := true, named := ["unicode/utf8.first", "unicode/utf8.acceptRanges", "internal/bytealg.MaxLen"], apart := false, laid := [("unicode/utf8.acceptRanges", laid_unicode_utf8_acceptRanges), ("unicode/utf8.first", laid_unicode_utf8_first)], narrowed := true }
def ArchScansUptoSaid : Prop := archScansUptoRow.holds Tryd.pinned (OpenSpec.upto archScansSpec)

/-- 'wracklaw2.ArchReads', WHERE WHAT IT READS IS OF BULK AT MOST 1048576: true; the input reads as it did. -/
def archReadsUptoRow : OpenClaim := { program := "yteekijpcdcpjkaadoor", sum := "35ac31b246e3dda97d5a3f5e2688cd12c797e1f5457a790b9edb62317fb28518", func := "wrackline/wracklaw2.ArchReads", spec := "archReads", inPlace := ["internal/bytealg.CountString", "internal/bytealg.IndexByteString", "internal/bytealg.IndexString"], unfollowed := true, recurses := true, named := ["unicode/utf8.first", "unicode/utf8.acceptRanges", "internal/bytealg.MaxLen"], apart := false, laid := [("unicode/utf8.acceptRanges", laid_unicode_utf8_acceptRanges), ("unicode/utf8.first", laid_unicode_utf8_first)], narrowed := true }
def ArchReadsUptoSaid : Prop := archReadsUptoRow.holds Tryd.pinned (OpenSpec.upto archReadsSpec)

end Rows
end Go.Proofs.YteekijpcdcpjkaaDoor
