/-
  DERIVED. GIVEN WITH THE SEED: THE CARDS: each row of YtncgenibaclejaaGreatDoorRows.lean that lists a variable, with what it lists TIED to the program's text (the seventh form; the later family's looks); each row that meets fmt, with fmt's text TOLD by the authors' own Lean function (tested against real Go, not proved from fmt's source: count such statements apart). THE CARD IS WHAT COUNTS. Prove the row's statement (the work); the ties are given (YtncgenibaclejaaGreatDoorTie.lean); close each card by the builder's one call (the guide's Derived/Test/ToyasCard.lean, 'card_holds'). Laid BY PROGRAM, IN A SANDBOX (cutbox-door.mjs). By AI agents, Wed Nov 11 2026. No macro, syntax, notation, axiom, sorry.
-/
import Derived.Test.YtncgenibaclejaaGreatDoorRows
import GoSem.ClaimSeven
namespace Go.Proofs.YtncgenibaclejaaGreatDoor
namespace Rows

/-- THE TIED CARD OF 'outstationlaw27.ConfigReads'. -/
def configReadsCard : Claim7 := { stood := { row := configReadsRow, standIns := [], harness := (true, "3eb10ebd6754e3f683632688c98d663af1a154df67ec825199570d9918b08a9d"), looks := true }, kinds := [], alts := [], laidByText := true, laidKinds := [.data, .data, .data, .data, .sentinel, .sentinel, .pinned], laidTests := true, laidLooks := .later }
def ConfigReadsCardSaid : Prop := Claim7.holds Tryz.pinned (.plain (OpenSpec.ofChange configReadsSpec)) configReadsCard

/-- THE SECOND FORM's CARD OF 'outstationlaw27.ConfigReads'. -/
def configReadsUptoCard : Claim7 := { stood := { row := configReadsUptoRow, standIns := [], harness := (true, "3eb10ebd6754e3f683632688c98d663af1a154df67ec825199570d9918b08a9d"), looks := true }, kinds := [], alts := [], laidByText := true, laidKinds := [.data, .data, .data, .data, .sentinel, .sentinel, .pinned], laidTests := true, laidLooks := .later }
def ConfigReadsUptoCardSaid : Prop := Claim7.holds Tryz.pinned (.plain (OpenSpec.upto configReadsSpec)) configReadsUptoCard
end Rows
end Go.Proofs.YtncgenibaclejaaGreatDoor
