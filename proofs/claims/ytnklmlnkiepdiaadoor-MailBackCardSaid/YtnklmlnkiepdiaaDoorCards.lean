/-
  DERIVED. GIVEN WITH THE SEED: THE CARDS: each row of YtnklmlnkiepdiaaDoorRows.lean that lists a variable, with what it lists TIED to the program's text (the seventh form; the later family's looks); each row that meets fmt, with fmt's text TOLD by the authors' own Lean function (tested against real Go, not proved from fmt's source: count such statements apart). THE CARD IS WHAT COUNTS. Prove the row's statement (the work); the ties are given (YtnklmlnkiepdiaaDoorTie.lean); close each card by the builder's one call (the guide's Derived/Test/ToyasCard.lean, 'card_holds'). Laid BY PROGRAM, IN A SANDBOX (cutbox-door.mjs). By AI agents, Wed Nov 11 2026. No macro, syntax, notation, axiom, sorry.
-/
import Derived.Test.YtnklmlnkiepdiaaDoorRows
import GoSem.ClaimSeven
namespace Go.Proofs.YtnklmlnkiepdiaaDoor
namespace Rows

/-- THE TIED CARD OF 'wrackkeep2.MailThreaded'. -/
def mailThreadedCard : Claim7 := { stood := { row := mailThreadedRow, standIns := [], harness := (true, "d79e4a9d58c538ac34b52832515cd1a4107b4257dca7556fa392212be84b4202"), looks := true }, kinds := [], alts := [], laidByText := true, laidKinds := [.data, .data, .data, .data, .pinned], laidTests := true, laidLooks := .later }
def MailThreadedCardSaid : Prop := Claim7.holds Tryd.pinned (.plain (OpenSpec.ofChange mailThreadedSpec)) mailThreadedCard

/-- THE TIED CARD OF 'wracklaw2.MailPrints'. -/
def mailPrintsCard : Claim7 := { stood := { row := mailPrintsRow, standIns := [], harness := (true, "d79e4a9d58c538ac34b52832515cd1a4107b4257dca7556fa392212be84b4202"), looks := true }, kinds := [], alts := [], laidByText := true, laidKinds := [.data, .data, .data, .data, .pinned], laidTests := true, laidLooks := .later }
def MailPrintsCardSaid : Prop := Claim7.holds Tryd.pinned (.plain (OpenSpec.ofChange mailPrintsSpec)) mailPrintsCard

/-- THE TIED CARD OF 'wrackkeep2.MailBack'. -/
def mailBackCard : Claim7 := { stood := { row := mailBackRow, standIns := [], harness := (true, "d79e4a9d58c538ac34b52832515cd1a4107b4257dca7556fa392212be84b4202"), looks := true }, kinds := [], alts := [], laidByText := true, laidKinds := [.data, .data, .data, .data, .sentinel, .sentinel, .pinned], laidTests := true, laidLooks := .later }
def MailBackCardSaid : Prop := Claim7.holds Tryd.pinned (.plain (OpenSpec.ofChange mailBackSpec)) mailBackCard

/-- THE SECOND FORM's CARD OF 'wrackkeep2.MailThreaded'. -/
def mailThreadedUptoCard : Claim7 := { stood := { row := mailThreadedUptoRow, standIns := [], harness := (true, "d79e4a9d58c538ac34b52832515cd1a4107b4257dca7556fa392212be84b4202"), looks := true }, kinds := [], alts := [], laidByText := true, laidKinds := [.data, .data, .data, .data, .pinned], laidTests := true, laidLooks := .later }
def MailThreadedUptoCardSaid : Prop := Claim7.holds Tryd.pinned (.plain (OpenSpec.upto mailThreadedSpec)) mailThreadedUptoCard

/-- THE SECOND FORM's CARD OF 'wracklaw2.MailPrints'. -/
def mailPrintsUptoCard : Claim7 := { stood := { row := mailPrintsUptoRow, standIns := [], harness := (true, "d79e4a9d58c538ac34b52832515cd1a4107b4257dca7556fa392212be84b4202"), looks := true }, kinds := [], alts := [], laidByText := true, laidKinds := [.data, .data, .data, .data, .pinned], laidTests := true, laidLooks := .later }
def MailPrintsUptoCardSaid : Prop := Claim7.holds Tryd.pinned (.plain (OpenSpec.upto mailPrintsSpec)) mailPrintsUptoCard

/-- THE SECOND FORM's CARD OF 'wrackkeep2.MailBack'. -/
def mailBackUptoCard : Claim7 := { stood := { row := mailBackUptoRow, standIns := [], harness := (true, "d79e4a9d58c538ac34b52832515cd1a4107b4257dca7556fa392212be84b4202"), looks := true }, kinds := [], alts := [], laidByText := true, laidKinds := [.data, .data, .data, .data, .sentinel, .sentinel, .pinned], laidTests := true, laidLooks := .later }
def MailBackUptoCardSaid : Prop := Claim7.holds Tryd.pinned (.plain (OpenSpec.upto mailBackSpec)) mailBackUptoCard
end Rows
end Go.Proofs.YtnklmlnkiepdiaaDoor
