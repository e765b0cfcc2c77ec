/-
  DERIVED. GIVEN WITH THE SEED: THE CARDS: each row of YtnklmlnkiepdiaaGreatDoorRows.lean that lists a variable, with what it lists TIED to the program's text (the seventh form; the later family's looks); each row that meets fmt, with fmt's text TOLD by the authors' own Lean function (tested against real Go, not proved from fmt's source: count such statements apart). THE CARD IS WHAT COUNTS. Prove the row's statement (the work); the ties are given (YtnklmlnkiepdiaaGreatDoorTie.lean); close each card by the builder's one call (the guide's Derived/Test/ToyasCard.lean, 'card_holds'). Laid BY PROGRAM, IN A SANDBOX (cutbox-door.mjs). By AI agents, Wed Nov 11 2026. No macro, syntax, notation, axiom, sorry.
-/
import Derived.Test.YtnklmlnkiepdiaaGreatDoorRows
import GoSem.ClaimSeven
namespace Go.Proofs.YtnklmlnkiepdiaaGreatDoor
namespace Rows

/-- THE TIED CARD OF 'wracklaw2.MailThreads'. -/
def mailThreadsCard : Claim7 := { stood := { row := mailThreadsRow, standIns := [], harness := (true, "b9967f3cefdb7145459c518b379fbcf85b26bc1714f4423fc5a2e2d8bd50a967"), looks := true }, kinds := [], alts := [], laidByText := true, laidKinds := [.data, .data, .data, .data, .pinned], laidTests := true, laidLooks := .later }
def MailThreadsCardSaid : Prop := Claim7.holds Tryz.pinned (.plain (OpenSpec.ofChange mailThreadsSpec)) mailThreadsCard

/-- THE TIED CARD OF 'wracklaw2.MailReads'. -/
def mailReadsCard : Claim7 := { stood := { row := mailReadsRow, standIns := [], harness := (true, "b9967f3cefdb7145459c518b379fbcf85b26bc1714f4423fc5a2e2d8bd50a967"), looks := true }, kinds := [], alts := [], laidByText := true, laidKinds := [.data, .data, .data, .data, .sentinel, .sentinel, .pinned], laidTests := true, laidLooks := .later }
def MailReadsCardSaid : Prop := Claim7.holds Tryz.pinned (.plain (OpenSpec.ofChange mailReadsSpec)) mailReadsCard

/-- THE TIED CARD OF 'wrackkeep2.HistBack'. -/
def histBackCard : Claim7 := { stood := { row := histBackRow, standIns := [], harness := (true, "b9967f3cefdb7145459c518b379fbcf85b26bc1714f4423fc5a2e2d8bd50a967"), looks := true }, kinds := [], alts := [], laidByText := true, laidKinds := [.data, .pinned], laidTests := true, laidLooks := .later }
def HistBackCardSaid : Prop := Claim7.holds Tryz.pinned (.plain (OpenSpec.ofChange histBackSpec)) histBackCard

/-- THE TIED CARD OF 'wrackkeep2.HistParts'. -/
def histPartsCard : Claim7 := { stood := { row := histPartsRow, standIns := [], harness := (true, "b9967f3cefdb7145459c518b379fbcf85b26bc1714f4423fc5a2e2d8bd50a967"), looks := true }, kinds := [], alts := [], laidByText := true, laidKinds := [.data, .pinned], laidTests := true, laidLooks := .later }
def HistPartsCardSaid : Prop := Claim7.holds Tryz.pinned (.plain (OpenSpec.ofChange histPartsSpec)) histPartsCard

/-- THE TIED CARD OF 'wracklaw2.HistSteps'. -/
def histStepsCard : Claim7 := { stood := { row := histStepsRow, standIns := [], harness := (true, "b9967f3cefdb7145459c518b379fbcf85b26bc1714f4423fc5a2e2d8bd50a967"), looks := true }, kinds := [], alts := [], laidByText := true, laidKinds := [.data, .pinned], laidTests := true, laidLooks := .later }
def HistStepsCardSaid : Prop := Claim7.holds Tryz.pinned (.plain (OpenSpec.ofChange histStepsSpec)) histStepsCard

/-- THE TIED CARD OF 'wracklaw2.HistPlays'. -/
def histPlaysCard : Claim7 := { stood := { row := histPlaysRow, standIns := [], harness := (true, "b9967f3cefdb7145459c518b379fbcf85b26bc1714f4423fc5a2e2d8bd50a967"), looks := true }, kinds := [], alts := [], laidByText := true, laidKinds := [.data, .pinned], laidTests := true, laidLooks := .later }
def HistPlaysCardSaid : Prop := Claim7.holds Tryz.pinned (.plain (OpenSpec.ofChange histPlaysSpec)) histPlaysCard

/-- THE SECOND FORM's CARD OF 'wracklaw2.MailThreads'. -/
def mailThreadsUptoCard : Claim7 := { stood := { row := mailThreadsUptoRow, standIns := [], harness := (true, "b9967f3cefdb7145459c518b379fbcf85b26bc1714f4423fc5a2e2d8bd50a967"), looks := true }, kinds := [], alts := [], laidByText := true, laidKinds := [.data, .data, .data, .data, .pinned], laidTests := true, laidLooks := .later }
def MailThreadsUptoCardSaid : Prop := Claim7.holds Tryz.pinned (.plain (OpenSpec.upto mailThreadsSpec)) mailThreadsUptoCard

/-- THE SECOND FORM's CARD OF 'wracklaw2.MailReads'. -/
def mailReadsUptoCard : Claim7 := { stood := { row := mailReadsUptoRow, standIns := [], harness := (true, "b9967f3cefdb7145459c518b379fbcf85b26bc1714f4423fc5a2e2d8bd50a967"), looks := true }, kinds := [], alts := [], laidByText := true, laidKinds := [.data, .data, .data, .data, .sentinel, .sentinel, .pinned], laidTests := true, laidLooks := .later }
def MailReadsUptoCardSaid : Prop := Claim7.holds Tryz.pinned (.plain (OpenSpec.upto mailReadsSpec)) mailReadsUptoCard

/-- THE SECOND FORM's CARD OF 'wrackkeep2.HistBack'. -/
def histBackUptoCard : Claim7 := { stood := { row := histBackUptoRow, standIns := [], harness := (true, "b9967f3cefdb7145459c518b379fbcf85b26bc1714f4423fc5a2e2d8bd50a967"), looks := true }, kinds := [], alts := [], laidByText := true, laidKinds := [.data, .pinned], laidTests := true, laidLooks := .later }
def HistBackUptoCardSaid : Prop := Claim7.holds Tryz.pinned (.plain (OpenSpec.upto histBackSpec)) histBackUptoCard

/-- THE SECOND FORM's CARD OF 'wrackkeep2.HistParts'. -/
def histPartsUptoCard : Claim7 := { stood := { row := histPartsUptoRow, standIns := [], harness := (true, "b9967f3cefdb7145459c518b379fbcf85b26bc1714f4423fc5a2e2d8bd50a967"), looks := true }, kinds := [], alts := [], laidByText := true, laidKinds := [.data, .pinned], laidTests := true, laidLooks := .later }
def HistPartsUptoCardSaid : Prop := Claim7.holds Tryz.pinned (.plain (OpenSpec.upto histPartsSpec)) histPartsUptoCard

/-- THE SECOND FORM's CARD OF 'wracklaw2.HistSteps'. -/
def histStepsUptoCard : Claim7 := { stood := { row := histStepsUptoRow, standIns := [], harness := (true, "b9967f3cefdb7145459c518b379fbcf85b26bc1714f4423fc5a2e2d8bd50a967"), looks := true }, kinds := [], alts := [], laidByText := true, laidKinds := [.data, .pinned], laidTests := true, laidLooks := .later }
def HistStepsUptoCardSaid : Prop := Claim7.holds Tryz.pinned (.plain (OpenSpec.upto histStepsSpec)) histStepsUptoCard

/-- THE SECOND FORM's CARD OF 'wracklaw2.HistPlays'. -/
def histPlaysUptoCard : Claim7 := { stood := { row := histPlaysUptoRow, standIns := [], harness := (true, "b9967f3cefdb7145459c518b379fbcf85b26bc1714f4423fc5a2e2d8bd50a967"), looks := true }, kinds := [], alts := [], laidByText := true, laidKinds := [.data, .pinned], laidTests := true, laidLooks := .later }
def HistPlaysUptoCardSaid : Prop := Claim7.holds Tryz.pinned (.plain (OpenSpec.upto histPlaysSpec)) histPlaysUptoCard
end Rows
end Go.Proofs.YtnklmlnkiepdiaaGreatDoor
