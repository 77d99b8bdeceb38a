/-
  DERIVED. GIVEN WITH THE SEED: THE CARDS: each row of YtekfoaklfnldhaaGreatDoorRows.lean that lists a variable, with what it lists TIED to the program's text (the seventh form; the later family's looks); each row that meets fmt, with fmt's text TOLD by the authors' own Lean function (tested against real Go, not proved from fmt's source: count such statements apart). THE CARD IS WHAT COUNTS. Prove the row's statement (the work); the ties are given (YtekfoaklfnldhaaGreatDoorTie.lean); close each card by the builder's one call (the guide's Derived/Test/ToyasCard.lean, 'card_holds'). Laid BY PROGRAM, IN A SANDBOX (cutbox-door.mjs). By AI agents, Wed Nov 11 2026. No macro, syntax, notation, axiom, sorry.
-/
import Derived.Test.YtekfoaklfnldhaaGreatDoorRows
import GoSem.ClaimSeven
namespace Go.Proofs.YtekfoaklfnldhaaGreatDoor
namespace Rows

/-- THE TIED CARD OF 'outstationlaw30.ConsoleSteps'. -/
def consoleStepsCard : Claim7 := { stood := { row := consoleStepsRow, standIns := [], harness := (true, "0aece1dbc85e5b8c3fcb12f70c2998cee04043168a0aa182cfa912c65babc147"), looks := true }, kinds := [], alts := [], laidByText := true, laidKinds := [.data, .data, .data, .data, .sentinel, .sentinel, .data, .pinned], laidTests := true, laidLooks := .later }
def ConsoleStepsCardSaid : Prop := Claim7.holds Tryz.pinned (.plain (OpenSpec.ofChange consoleStepsSpec)) consoleStepsCard

/-- THE TIED CARD OF 'outstationlaw30.ConsoleLines'. -/
def consoleLinesCard : Claim7 := { stood := { row := consoleLinesRow, standIns := [], harness := (true, "0aece1dbc85e5b8c3fcb12f70c2998cee04043168a0aa182cfa912c65babc147"), looks := true }, kinds := [], alts := [], laidByText := true, laidKinds := [.data, .data, .data, .data, .sentinel, .sentinel, .data, .pinned], laidTests := true, laidLooks := .later }
def ConsoleLinesCardSaid : Prop := Claim7.holds Tryz.pinned (.plain (OpenSpec.ofChange consoleLinesSpec)) consoleLinesCard

/-- THE TIED CARD OF 'outstationlaw30.ConsoleBack'. -/
def consoleBackCard : Claim7 := { stood := { row := consoleBackRow, standIns := [], harness := (true, "0aece1dbc85e5b8c3fcb12f70c2998cee04043168a0aa182cfa912c65babc147"), looks := true }, kinds := [], alts := [], laidByText := true, laidKinds := [.data, .data, .data, .data, .sentinel, .sentinel, .data, .pinned], laidTests := true, laidLooks := .later }
def ConsoleBackCardSaid : Prop := Claim7.holds Tryz.pinned (.plain (OpenSpec.ofChange consoleBackSpec)) consoleBackCard

/-- THE SECOND FORM's CARD OF 'outstationlaw30.ConsoleSteps'. -/
def consoleStepsUptoCard : Claim7 := { stood := { row := consoleStepsUptoRow, standIns := [], harness := (true, "0aece1dbc85e5b8c3fcb12f70c2998cee04043168a0aa182cfa912c65babc147"), looks := true }, kinds := [], alts := [], laidByText := true, laidKinds := [.data, .data, .data, .data, .sentinel, .sentinel, .data, .pinned], laidTests := true, laidLooks := .later }
def ConsoleStepsUptoCardSaid : Prop := Claim7.holds Tryz.pinned (.plain (OpenSpec.upto consoleStepsSpec)) consoleStepsUptoCard

/-- THE SECOND FORM's CARD OF 'outstationlaw30.ConsoleLines'. -/
def consoleLinesUptoCard : Claim7 := { stood := { row := consoleLinesUptoRow, standIns := [], harness := (true, "0aece1dbc85e5b8c3fcb12f70c2998cee04043168a0aa182cfa912c65babc147"), looks := true }, kinds := [], alts := [], laidByText := true, laidKinds := [.data, .data, .data, .data, .sentinel, .sentinel, .data, .pinned], laidTests := true, laidLooks := .later }
def ConsoleLinesUptoCardSaid : Prop := Claim7.holds Tryz.pinned (.plain (OpenSpec.upto consoleLinesSpec)) consoleLinesUptoCard

/-- THE SECOND FORM's CARD OF 'outstationlaw30.ConsoleBack'. -/
def consoleBackUptoCard : Claim7 := { stood := { row := consoleBackUptoRow, standIns := [], harness := (true, "0aece1dbc85e5b8c3fcb12f70c2998cee04043168a0aa182cfa912c65babc147"), looks := true }, kinds := [], alts := [], laidByText := true, laidKinds := [.data, .data, .data, .data, .sentinel, .sentinel, .data, .pinned], laidTests := true, laidLooks := .later }
def ConsoleBackUptoCardSaid : Prop := Claim7.holds Tryz.pinned (.plain (OpenSpec.upto consoleBackSpec)) consoleBackUptoCard
end Rows
end Go.Proofs.YtekfoaklfnldhaaGreatDoor
