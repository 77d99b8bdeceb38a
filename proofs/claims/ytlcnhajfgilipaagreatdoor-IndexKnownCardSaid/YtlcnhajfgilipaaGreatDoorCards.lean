/-
  DERIVED. GIVEN WITH THE SEED: THE CARDS: each row of YtlcnhajfgilipaaGreatDoorRows.lean that lists a variable, with what it lists TIED to the program's text (the seventh form; the later family's looks); each row that meets fmt, with fmt's text TOLD by the authors' own Lean function (tested against real Go, not proved from fmt's source: count such statements apart). THE CARD IS WHAT COUNTS. Prove the row's statement (the work); the ties are given (YtlcnhajfgilipaaGreatDoorTie.lean); close each card by the builder's one call (the guide's Derived/Test/ToyasCard.lean, 'card_holds'). Laid BY PROGRAM, IN A SANDBOX (cutbox-door.mjs). By AI agents, Wed Nov 11 2026. No macro, syntax, notation, axiom, sorry.
-/
import Derived.Test.YtlcnhajfgilipaaGreatDoorRows
import GoSem.ClaimSeven
namespace Go.Proofs.YtlcnhajfgilipaaGreatDoor
namespace Rows

/-- THE TIED CARD OF 'outstationlaw16.IndexSays'. -/
def indexSaysCard : Claim7 := { stood := { row := indexSaysRow, standIns := [], harness := (true, "9edb5a2996ae1c3f6863b4aa98ba0e7f202a730814d1ea0e2ea743cae6c00bda"), looks := false }, kinds := [], alts := [], laidByText := true, laidKinds := [.data, .data, .data, .data, .pinned], laidTests := true, laidLooks := .later }
def IndexSaysCardSaid : Prop := Claim7.holds Tryz.pinned (.plain (OpenSpec.ofChange indexSaysSpec)) indexSaysCard

/-- THE TIED CARD OF 'outstationlaw16.IndexKnown'. -/
def indexKnownCard : Claim7 := { stood := { row := indexKnownRow, standIns := [], harness := (true, "9edb5a2996ae1c3f6863b4aa98ba0e7f202a730814d1ea0e2ea743cae6c00bda"), looks := false }, kinds := [], alts := [], laidByText := true, laidKinds := [.data, .data, .data, .data, .data, .pinned], laidTests := true, laidLooks := .later }
def IndexKnownCardSaid : Prop := Claim7.holds Tryz.pinned (.plain (OpenSpec.ofChange indexKnownSpec)) indexKnownCard

/-- THE SECOND FORM's CARD OF 'outstationlaw16.IndexSays'. -/
def indexSaysUptoCard : Claim7 := { stood := { row := indexSaysUptoRow, standIns := [], harness := (true, "9edb5a2996ae1c3f6863b4aa98ba0e7f202a730814d1ea0e2ea743cae6c00bda"), looks := false }, kinds := [], alts := [], laidByText := true, laidKinds := [.data, .data, .data, .data, .pinned], laidTests := true, laidLooks := .later }
def IndexSaysUptoCardSaid : Prop := Claim7.holds Tryz.pinned (.plain (OpenSpec.upto indexSaysSpec)) indexSaysUptoCard

/-- THE SECOND FORM's CARD OF 'outstationlaw16.IndexKnown'. -/
def indexKnownUptoCard : Claim7 := { stood := { row := indexKnownUptoRow, standIns := [], harness := (true, "9edb5a2996ae1c3f6863b4aa98ba0e7f202a730814d1ea0e2ea743cae6c00bda"), looks := false }, kinds := [], alts := [], laidByText := true, laidKinds := [.data, .data, .data, .data, .data, .pinned], laidTests := true, laidLooks := .later }
def IndexKnownUptoCardSaid : Prop := Claim7.holds Tryz.pinned (.plain (OpenSpec.upto indexKnownSpec)) indexKnownUptoCard
end Rows
end Go.Proofs.YtlcnhajfgilipaaGreatDoor
