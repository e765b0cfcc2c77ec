/-
  DERIVED. GIVEN WITH THE SEED: THE CARDS: each row of YteekijpcdcpjkaaDoorRows.lean that lists a variable, with what it lists TIED to the program's text (the seventh form; the later family's looks); each row that meets fmt, with fmt's text TOLD by the authors' own Lean function (tested against real Go, not proved from fmt's source: count such statements apart). THE CARD IS WHAT COUNTS. Prove the row's statement (the work); the ties are given (YteekijpcdcpjkaaDoorTie.lean); close each card by the builder's one call (the guide's Derived/Test/ToyasCard.lean, 'card_holds'). Laid BY PROGRAM, IN A SANDBOX (cutbox-door.mjs). By AI agents, Wed Nov 11 2026. No macro, syntax, notation, axiom, sorry.
-/
import Derived.Test.YteekijpcdcpjkaaDoorRows
import GoSem.ClaimSeven
namespace Go.Proofs.YteekijpcdcpjkaaDoor
namespace Rows

/-- THE TIED CARD OF 'wrackkeep2.ArchEnds'. -/
def archEndsCard : Claim7 := { stood := { row := archEndsRow, standIns := [], harness := (true, "c2ed9f1dad0a134f094967ae9aebc697313db26b8968be68fad69611230f1fd5"), looks := false }, kinds := [], alts := [], laidByText := true, laidKinds := [.data, .pinned], laidTests := true, laidLooks := .later }
def ArchEndsCardSaid : Prop := Claim7.holds Tryd.pinned (.plain (OpenSpec.ofChange archEndsSpec)) archEndsCard

/-- THE TIED CARD OF 'wrackkeep2.ArchBack'. -/
def archBackCard : Claim7 := { stood := { row := archBackRow, standIns := [], harness := (true, "c2ed9f1dad0a134f094967ae9aebc697313db26b8968be68fad69611230f1fd5"), looks := false }, kinds := [], alts := [], laidByText := true, laidKinds := [.data, .pinned], laidTests := true, laidLooks := .later }
def ArchBackCardSaid : Prop := Claim7.holds Tryd.pinned (.plain (OpenSpec.ofChange archBackSpec)) archBackCard

/-- THE TIED CARD OF 'wracklaw2.ArchMakes'. -/
def archMakesCard : Claim7 := { stood := { row := archMakesRow, standIns := [], harness := (true, "c2ed9f1dad0a134f094967ae9aebc697313db26b8968be68fad69611230f1fd5"), looks := false }, kinds := [], alts := [], laidByText := true, laidKinds := [.data, .pinned], laidTests := true, laidLooks := .later }
def ArchMakesCardSaid : Prop := Claim7.holds Tryd.pinned (.plain (OpenSpec.ofChange archMakesSpec)) archMakesCard

/-- THE TIED CARD OF 'wracklaw2.ArchScans'. -/
def archScansCard : Claim7 := { stood := { row := archScansRow, standIns := [], harness := (true, "c2ed9f1dad0a134f094967ae9aebc697313db26b8968be68fad69611230f1fd5"), looks := false }, kinds := [], alts := [], laidByText := true, laidKinds := [.data, .pinned], laidTests := true, laidLooks := .later }
def ArchScansCardSaid : Prop := Claim7.holds Tryd.pinned (.plain (OpenSpec.ofChange archScansSpec)) archScansCard

/-- THE TIED CARD OF 'wracklaw2.ArchReads'. -/
def archReadsCard : Claim7 := { stood := { row := archReadsRow, standIns := [], harness := (true, "c2ed9f1dad0a134f094967ae9aebc697313db26b8968be68fad69611230f1fd5"), looks := false }, kinds := [], alts := [], laidByText := true, laidKinds := [.data, .pinned], laidTests := true, laidLooks := .later }
def ArchReadsCardSaid : Prop := Claim7.holds Tryd.pinned (.plain (OpenSpec.ofChange archReadsSpec)) archReadsCard

/-- THE SECOND FORM's CARD OF 'wrackkeep2.ArchEnds'. -/
def archEndsUptoCard : Claim7 := { stood := { row := archEndsUptoRow, standIns := [], harness := (true, "c2ed9f1dad0a134f094967ae9aebc697313db26b8968be68fad69611230f1fd5"), looks := false }, kinds := [], alts := [], laidByText := true, laidKinds := [.data, .pinned], laidTests := true, laidLooks := .later }
def ArchEndsUptoCardSaid : Prop := Claim7.holds Tryd.pinned (.plain (OpenSpec.upto archEndsSpec)) archEndsUptoCard

/-- THE SECOND FORM's CARD OF 'wrackkeep2.ArchBack'. -/
def archBackUptoCard : Claim7 := { stood := { row := archBackUptoRow, standIns := [], harness := (true, "c2ed9f1dad0a134f094967ae9aebc697313db26b8968be68fad69611230f1fd5"), looks := false }, kinds := [], alts := [], laidByText := true, laidKinds := [.data, .pinned], laidTests := true, laidLooks := .later }
def ArchBackUptoCardSaid : Prop := Claim7.holds Tryd.pinned (.plain (OpenSpec.upto archBackSpec)) archBackUptoCard

/-- THE SECOND FORM's CARD OF 'wracklaw2.ArchMakes'. -/
def archMakesUptoCard : Claim7 := { stood := { row := archMakesUptoRow, standIns := [], harness := (true, "c2ed9f1dad0a134f094967ae9aebc697313db26b8968be68fad69611230f1fd5"), looks := false }, kinds := [], alts := [], laidByText := true, laidKinds := [.data, .pinned], laidTests := true, laidLooks := .later }
def ArchMakesUptoCardSaid : Prop := Claim7.holds Tryd.pinned (.plain (OpenSpec.upto archMakesSpec)) archMakesUptoCard

/-- THE SECOND FORM's CARD OF 'wracklaw2.ArchScans'. -/
def archScansUptoCard : Claim7 := { stood := { row := archScansUptoRow, standIns := [], harness := (true, "c2ed9f1dad0a134f094967ae9aebc697313db26b8968be68fad69611230f1fd5"), looks := false }, kinds := [], alts := [], laidByText := true, laidKinds := [.data, .pinned], laidTests := true, laidLooks := .later }
def ArchScansUptoCardSaid : Prop := Claim7.holds Tryd.pinned (.plain (OpenSpec.upto archScansSpec)) archScansUptoCard

/-- THE SECOND FORM's CARD OF 'wracklaw2.ArchReads'. -/
def archReadsUptoCard : Claim7 := { stood := { row := archReadsUptoRow, standIns := [], harness := (true, "c2ed9f1dad0a134f094967ae9aebc697313db26b8968be68fad69611230f1fd5"), looks := false }, kinds := [], alts := [], laidByText := true, laidKinds := [.data, .pinned], laidTests := true, laidLooks := .later }
def ArchReadsUptoCardSaid : Prop := Claim7.holds Tryd.pinned (.plain (OpenSpec.upto archReadsSpec)) archReadsUptoCard
end Rows
end Go.Proofs.YteekijpcdcpjkaaDoor
