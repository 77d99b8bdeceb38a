/-
  DERIVED. GIVEN WITH THE SEED: THE CARDS: each row of YtncgenibaclejaaDoorRows.lean that lists a variable, with what it lists TIED to the program's text (the seventh form; the later family's looks); each row that meets fmt, with fmt's text TOLD by the authors' own Lean function (tested against real Go, not proved from fmt's source: count such statements apart). THE CARD IS WHAT COUNTS. Prove the row's statement (the work); the ties are given (YtncgenibaclejaaDoorTie.lean); close each card by the builder's one call (the guide's Derived/Test/ToyasCard.lean, 'card_holds'). Laid BY PROGRAM, IN A SANDBOX (cutbox-door.mjs). By AI agents, Wed Nov 11 2026. No macro, syntax, notation, axiom, sorry.
-/
import Derived.Test.YtncgenibaclejaaDoorRows
import GoSem.ClaimSeven
namespace Go.Proofs.YtncgenibaclejaaDoor
namespace Rows

/-- THE TIED CARD OF 'outstationlaw27.ConfigPrints'. -/
def configPrintsCard : Claim7 := { stood := { row := configPrintsRow, standIns := [], harness := (true, "36b64ec3e477b5ccfb13f7a62655240863d3d4109a75ce0b00c550b1386fabde"), looks := true }, kinds := [], alts := [], laidByText := true, laidKinds := [.data, .data, .data], laidTests := true, laidLooks := .later }
def ConfigPrintsCardSaid : Prop := Claim7.holds Tryd.pinned (.plain (OpenSpec.ofChange configPrintsSpec)) configPrintsCard

/-- THE TIED CARD OF 'outstationlaw27.ConfigBack'. -/
def configBackCard : Claim7 := { stood := { row := configBackRow, standIns := [], harness := (true, "36b64ec3e477b5ccfb13f7a62655240863d3d4109a75ce0b00c550b1386fabde"), looks := true }, kinds := [], alts := [], laidByText := true, laidKinds := [.data, .data, .data, .data, .sentinel, .sentinel, .pinned], laidTests := true, laidLooks := .later }
def ConfigBackCardSaid : Prop := Claim7.holds Tryd.pinned (.plain (OpenSpec.ofChange configBackSpec)) configBackCard

/-- THE TIED CARD OF 'outstationlaw27.ConfigOnly'. -/
def configOnlyCard : Claim7 := { stood := { row := configOnlyRow, standIns := [], harness := (true, "36b64ec3e477b5ccfb13f7a62655240863d3d4109a75ce0b00c550b1386fabde"), looks := true }, kinds := [], alts := [], laidByText := true, laidKinds := [.data, .data, .data, .data, .sentinel, .sentinel, .pinned], laidTests := true, laidLooks := .later }
def ConfigOnlyCardSaid : Prop := Claim7.holds Tryd.pinned (.plain (OpenSpec.ofChange configOnlySpec)) configOnlyCard

/-- THE TIED CARD OF 'outstationlaw27.ConfigLines'. -/
def configLinesCard : Claim7 := { stood := { row := configLinesRow, standIns := [], harness := (true, "36b64ec3e477b5ccfb13f7a62655240863d3d4109a75ce0b00c550b1386fabde"), looks := true }, kinds := [], alts := [], laidByText := true, laidKinds := [.data, .data, .data, .data, .sentinel, .sentinel, .pinned], laidTests := true, laidLooks := .later }
def ConfigLinesCardSaid : Prop := Claim7.holds Tryd.pinned (.plain (OpenSpec.ofChange configLinesSpec)) configLinesCard

/-- THE TIED CARD OF 'outstationlaw27.ConfigKnown'. -/
def configKnownCard : Claim7 := { stood := { row := configKnownRow, standIns := [], harness := (true, "36b64ec3e477b5ccfb13f7a62655240863d3d4109a75ce0b00c550b1386fabde"), looks := true }, kinds := [], alts := [], laidByText := true, laidKinds := [.data, .data, .data, .data, .sentinel, .sentinel, .pinned], laidTests := true, laidLooks := .later }
def ConfigKnownCardSaid : Prop := Claim7.holds Tryd.pinned (.plain (OpenSpec.ofChange configKnownSpec)) configKnownCard

/-- THE SECOND FORM's CARD OF 'outstationlaw27.ConfigPrints'. -/
def configPrintsUptoCard : Claim7 := { stood := { row := configPrintsUptoRow, standIns := [], harness := (true, "36b64ec3e477b5ccfb13f7a62655240863d3d4109a75ce0b00c550b1386fabde"), looks := true }, kinds := [], alts := [], laidByText := true, laidKinds := [.data, .data, .data], laidTests := true, laidLooks := .later }
def ConfigPrintsUptoCardSaid : Prop := Claim7.holds Tryd.pinned (.plain (OpenSpec.upto configPrintsSpec)) configPrintsUptoCard

/-- THE SECOND FORM's CARD OF 'outstationlaw27.ConfigBack'. -/
def configBackUptoCard : Claim7 := { stood := { row := configBackUptoRow, standIns := [], harness := (true, "36b64ec3e477b5ccfb13f7a62655240863d3d4109a75ce0b00c550b1386fabde"), looks := true }, kinds := [], alts := [], laidByText := true, laidKinds := [.data, .data, .data, .data, .sentinel, .sentinel, .pinned], laidTests := true, laidLooks := .later }
def ConfigBackUptoCardSaid : Prop := Claim7.holds Tryd.pinned (.plain (OpenSpec.upto configBackSpec)) configBackUptoCard

/-- THE SECOND FORM's CARD OF 'outstationlaw27.ConfigOnly'. -/
def configOnlyUptoCard : Claim7 := { stood := { row := configOnlyUptoRow, standIns := [], harness := (true, "36b64ec3e477b5ccfb13f7a62655240863d3d4109a75ce0b00c550b1386fabde"), looks := true }, kinds := [], alts := [], laidByText := true, laidKinds := [.data, .data, .data, .data, .sentinel, .sentinel, .pinned], laidTests := true, laidLooks := .later }
def ConfigOnlyUptoCardSaid : Prop := Claim7.holds Tryd.pinned (.plain (OpenSpec.upto configOnlySpec)) configOnlyUptoCard

/-- THE SECOND FORM's CARD OF 'outstationlaw27.ConfigLines'. -/
def configLinesUptoCard : Claim7 := { stood := { row := configLinesUptoRow, standIns := [], harness := (true, "36b64ec3e477b5ccfb13f7a62655240863d3d4109a75ce0b00c550b1386fabde"), looks := true }, kinds := [], alts := [], laidByText := true, laidKinds := [.data, .data, .data, .data, .sentinel, .sentinel, .pinned], laidTests := true, laidLooks := .later }
def ConfigLinesUptoCardSaid : Prop := Claim7.holds Tryd.pinned (.plain (OpenSpec.upto configLinesSpec)) configLinesUptoCard

/-- THE SECOND FORM's CARD OF 'outstationlaw27.ConfigKnown'. -/
def configKnownUptoCard : Claim7 := { stood := { row := configKnownUptoRow, standIns := [], harness := (true, "36b64ec3e477b5ccfb13f7a62655240863d3d4109a75ce0b00c550b1386fabde"), looks := true }, kinds := [], alts := [], laidByText := true, laidKinds := [.data, .data, .data, .data, .sentinel, .sentinel, .pinned], laidTests := true, laidLooks := .later }
def ConfigKnownUptoCardSaid : Prop := Claim7.holds Tryd.pinned (.plain (OpenSpec.upto configKnownSpec)) configKnownUptoCard
end Rows
end Go.Proofs.YtncgenibaclejaaDoor
