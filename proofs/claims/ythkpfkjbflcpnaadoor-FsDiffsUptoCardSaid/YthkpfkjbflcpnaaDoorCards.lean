/-
  DERIVED. GIVEN WITH THE SEED: THE CARDS: each row of YthkpfkjbflcpnaaDoorRows.lean that lists a variable, with what it lists TIED to the program's text (the seventh form; the later family's looks); each row that meets fmt, with fmt's text TOLD by the authors' own Lean function (tested against real Go, not proved from fmt's source: count such statements apart). THE CARD IS WHAT COUNTS. Prove the row's statement (the work); the ties are given (YthkpfkjbflcpnaaDoorTie.lean); close each card by the builder's one call (the guide's Derived/Test/ToyasCard.lean, 'card_holds'). Laid BY PROGRAM, IN A SANDBOX (cutbox-door.mjs). By AI agents, Wed Nov 11 2026. No macro, syntax, notation, axiom, sorry.
-/
import Derived.Test.YthkpfkjbflcpnaaDoorRows
import GoSem.ClaimSeven
namespace Go.Proofs.YthkpfkjbflcpnaaDoor
namespace Rows

/-- THE TIED CARD OF 'wracklaw2.FsPaths'. -/
def fsPathsCard : Claim7 := { stood := { row := fsPathsRow, standIns := [], harness := (true, "8693c07a61f7a0f010f6cdc5ecab6b95c39e61523be74d4e0ffef2e8feef2ef2"), looks := false }, kinds := [], alts := [], laidByText := true, laidKinds := [.data, .pinned], laidTests := true, laidLooks := .later }
def FsPathsCardSaid : Prop := Claim7.holds Tryd.pinned (.plain (OpenSpec.ofChange fsPathsSpec)) fsPathsCard

/-- THE TIED CARD OF 'wracklaw2.FsTrees'. -/
def fsTreesCard : Claim7 := { stood := { row := fsTreesRow, standIns := [], harness := (true, "8693c07a61f7a0f010f6cdc5ecab6b95c39e61523be74d4e0ffef2e8feef2ef2"), looks := false }, kinds := [], alts := [], laidByText := true, laidKinds := [.data, .pinned], laidTests := true, laidLooks := .later }
def FsTreesCardSaid : Prop := Claim7.holds Tryd.pinned (.plain (OpenSpec.ofChange fsTreesSpec)) fsTreesCard

/-- THE TIED CARD OF 'wrackkeep2.FsMirrors'. -/
def fsMirrorsCard : Claim7 := { stood := { row := fsMirrorsRow, standIns := [], harness := (true, "8693c07a61f7a0f010f6cdc5ecab6b95c39e61523be74d4e0ffef2e8feef2ef2"), looks := false }, kinds := [], alts := [], laidByText := true, laidKinds := [.data, .pinned], laidTests := true, laidLooks := .later }
def FsMirrorsCardSaid : Prop := Claim7.holds Tryd.pinned (.plain (OpenSpec.ofChange fsMirrorsSpec)) fsMirrorsCard

/-- THE TIED CARD OF 'wracklaw2.FsDiffs'. -/
def fsDiffsCard : Claim7 := { stood := { row := fsDiffsRow, standIns := [], harness := (true, "8693c07a61f7a0f010f6cdc5ecab6b95c39e61523be74d4e0ffef2e8feef2ef2"), looks := false }, kinds := [], alts := [], laidByText := true, laidKinds := [.data, .pinned], laidTests := true, laidLooks := .later }
def FsDiffsCardSaid : Prop := Claim7.holds Tryd.pinned (.plain (OpenSpec.ofChange fsDiffsSpec)) fsDiffsCard

/-- THE SECOND FORM's CARD OF 'wracklaw2.FsPaths'. -/
def fsPathsUptoCard : Claim7 := { stood := { row := fsPathsUptoRow, standIns := [], harness := (true, "8693c07a61f7a0f010f6cdc5ecab6b95c39e61523be74d4e0ffef2e8feef2ef2"), looks := false }, kinds := [], alts := [], laidByText := true, laidKinds := [.data, .pinned], laidTests := true, laidLooks := .later }
def FsPathsUptoCardSaid : Prop := Claim7.holds Tryd.pinned (.plain (OpenSpec.upto fsPathsSpec)) fsPathsUptoCard

/-- THE SECOND FORM's CARD OF 'wracklaw2.FsTrees'. -/
def fsTreesUptoCard : Claim7 := { stood := { row := fsTreesUptoRow, standIns := [], harness := (true, "8693c07a61f7a0f010f6cdc5ecab6b95c39e61523be74d4e0ffef2e8feef2ef2"), looks := false }, kinds := [], alts := [], laidByText := true, laidKinds := [.data, .pinned], laidTests := true, laidLooks := .later }
def FsTreesUptoCardSaid : Prop := Claim7.holds Tryd.pinned (.plain (OpenSpec.upto fsTreesSpec)) fsTreesUptoCard

/-- THE SECOND FORM's CARD OF 'wrackkeep2.FsMirrors'. -/
def fsMirrorsUptoCard : Claim7 := { stood := { row := fsMirrorsUptoRow, standIns := [], harness := (true, "8693c07a61f7a0f010f6cdc5ecab6b95c39e61523be74d4e0ffef2e8feef2ef2"), looks := false }, kinds := [], alts := [], laidByText := true, laidKinds := [.data, .pinned], laidTests := true, laidLooks := .later }
def FsMirrorsUptoCardSaid : Prop := Claim7.holds Tryd.pinned (.plain (OpenSpec.upto fsMirrorsSpec)) fsMirrorsUptoCard

/-- THE SECOND FORM's CARD OF 'wracklaw2.FsDiffs'. -/
def fsDiffsUptoCard : Claim7 := { stood := { row := fsDiffsUptoRow, standIns := [], harness := (true, "8693c07a61f7a0f010f6cdc5ecab6b95c39e61523be74d4e0ffef2e8feef2ef2"), looks := false }, kinds := [], alts := [], laidByText := true, laidKinds := [.data, .pinned], laidTests := true, laidLooks := .later }
def FsDiffsUptoCardSaid : Prop := Claim7.holds Tryd.pinned (.plain (OpenSpec.upto fsDiffsSpec)) fsDiffsUptoCard
end Rows
end Go.Proofs.YthkpfkjbflcpnaaDoor
