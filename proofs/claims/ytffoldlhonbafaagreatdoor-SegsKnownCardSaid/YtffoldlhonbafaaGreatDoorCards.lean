/-
  DERIVED. GIVEN WITH THE SEED: THE CARDS: each row of YtffoldlhonbafaaGreatDoorRows.lean that lists a variable, with what it lists TIED to the program's text (the seventh form; the later family's looks); each row that meets fmt, with fmt's text TOLD by the authors' own Lean function (tested against real Go, not proved from fmt's source: count such statements apart). THE CARD IS WHAT COUNTS. Prove the row's statement (the work); the ties are given (YtffoldlhonbafaaGreatDoorTie.lean); close each card by the builder's one call (the guide's Derived/Test/ToyasCard.lean, 'card_holds'). Laid BY PROGRAM, IN A SANDBOX (cutbox-door.mjs). By AI agents, Wed Nov 11 2026. No macro, syntax, notation, axiom, sorry.
-/
import Derived.Test.YtffoldlhonbafaaGreatDoorRows
import GoSem.ClaimSeven
namespace Go.Proofs.YtffoldlhonbafaaGreatDoor
namespace Rows

/-- THE TIED CARD OF 'outstationlaw14.SegsKnown'. -/
def segsKnownCard : Claim7 := { stood := { row := segsKnownRow, standIns := [], harness := (true, "2c10224b2761fa62b2278bbb0bd151d0922536d8d0c6f93877c58f0dc2345129"), looks := false }, kinds := [], alts := [], laidByText := true, laidKinds := [.data, .data, .data, .data, .pinned], laidTests := true, laidLooks := .later }
def SegsKnownCardSaid : Prop := Claim7.holds Tryz.pinned (.plain (OpenSpec.ofChange segsKnownSpec)) segsKnownCard

/-- THE SECOND FORM's CARD OF 'outstationlaw14.SegsKnown'. -/
def segsKnownUptoCard : Claim7 := { stood := { row := segsKnownUptoRow, standIns := [], harness := (true, "2c10224b2761fa62b2278bbb0bd151d0922536d8d0c6f93877c58f0dc2345129"), looks := false }, kinds := [], alts := [], laidByText := true, laidKinds := [.data, .data, .data, .data, .pinned], laidTests := true, laidLooks := .later }
def SegsKnownUptoCardSaid : Prop := Claim7.holds Tryz.pinned (.plain (OpenSpec.upto segsKnownSpec)) segsKnownUptoCard
end Rows
end Go.Proofs.YtffoldlhonbafaaGreatDoor
