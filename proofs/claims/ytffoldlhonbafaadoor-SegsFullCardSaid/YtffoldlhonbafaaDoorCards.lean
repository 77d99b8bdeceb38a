/-
  DERIVED. GIVEN WITH THE SEED: THE CARDS: each row of YtffoldlhonbafaaDoorRows.lean that lists a variable, with what it lists TIED to the program's text (the seventh form; the later family's looks); each row that meets fmt, with fmt's text TOLD by the authors' own Lean function (tested against real Go, not proved from fmt's source: count such statements apart). THE CARD IS WHAT COUNTS. Prove the row's statement (the work); the ties are given (YtffoldlhonbafaaDoorTie.lean); close each card by the builder's one call (the guide's Derived/Test/ToyasCard.lean, 'card_holds'). Laid BY PROGRAM, IN A SANDBOX (cutbox-door.mjs). By AI agents, Wed Nov 11 2026. No macro, syntax, notation, axiom, sorry.
-/
import Derived.Test.YtffoldlhonbafaaDoorRows
import GoSem.ClaimSeven
namespace Go.Proofs.YtffoldlhonbafaaDoor
namespace Rows

/-- THE TIED CARD OF 'outstationlaw14.SegsFull'. -/
def segsFullCard : Claim7 := { stood := { row := segsFullRow, standIns := [], harness := (true, "6739dccc1315e225ed591d437e483ccd93d7dda5a0ddfcb8ed9d94d3ee4cb8e6"), looks := false }, kinds := [], alts := [], laidByText := true, laidKinds := [.data, .data, .data, .data, .pinned], laidTests := true, laidLooks := .later }
def SegsFullCardSaid : Prop := Claim7.holds Tryd.pinned (.plain (OpenSpec.ofChange segsFullSpec)) segsFullCard

/-- THE TIED CARD OF 'outstationlaw14.SegsLasts'. -/
def segsLastsCard : Claim7 := { stood := { row := segsLastsRow, standIns := [], harness := (true, "6739dccc1315e225ed591d437e483ccd93d7dda5a0ddfcb8ed9d94d3ee4cb8e6"), looks := false }, kinds := [], alts := [], laidByText := true, laidKinds := [.data, .data, .data, .data, .pinned], laidTests := true, laidLooks := .later }
def SegsLastsCardSaid : Prop := Claim7.holds Tryd.pinned (.plain (OpenSpec.ofChange segsLastsSpec)) segsLastsCard

/-- THE TIED CARD OF 'outstationlaw14.SegsOpens'. -/
def segsOpensCard : Claim7 := { stood := { row := segsOpensRow, standIns := [], harness := (true, "6739dccc1315e225ed591d437e483ccd93d7dda5a0ddfcb8ed9d94d3ee4cb8e6"), looks := false }, kinds := [], alts := [], laidByText := true, laidKinds := [.data, .data, .data, .data, .pinned], laidTests := true, laidLooks := .later }
def SegsOpensCardSaid : Prop := Claim7.holds Tryd.pinned (.plain (OpenSpec.ofChange segsOpensSpec)) segsOpensCard

/-- THE SECOND FORM's CARD OF 'outstationlaw14.SegsFull'. -/
def segsFullUptoCard : Claim7 := { stood := { row := segsFullUptoRow, standIns := [], harness := (true, "6739dccc1315e225ed591d437e483ccd93d7dda5a0ddfcb8ed9d94d3ee4cb8e6"), looks := false }, kinds := [], alts := [], laidByText := true, laidKinds := [.data, .data, .data, .data, .pinned], laidTests := true, laidLooks := .later }
def SegsFullUptoCardSaid : Prop := Claim7.holds Tryd.pinned (.plain (OpenSpec.upto segsFullSpec)) segsFullUptoCard

/-- THE SECOND FORM's CARD OF 'outstationlaw14.SegsLasts'. -/
def segsLastsUptoCard : Claim7 := { stood := { row := segsLastsUptoRow, standIns := [], harness := (true, "6739dccc1315e225ed591d437e483ccd93d7dda5a0ddfcb8ed9d94d3ee4cb8e6"), looks := false }, kinds := [], alts := [], laidByText := true, laidKinds := [.data, .data, .data, .data, .pinned], laidTests := true, laidLooks := .later }
def SegsLastsUptoCardSaid : Prop := Claim7.holds Tryd.pinned (.plain (OpenSpec.upto segsLastsSpec)) segsLastsUptoCard

/-- THE SECOND FORM's CARD OF 'outstationlaw14.SegsOpens'. -/
def segsOpensUptoCard : Claim7 := { stood := { row := segsOpensUptoRow, standIns := [], harness := (true, "6739dccc1315e225ed591d437e483ccd93d7dda5a0ddfcb8ed9d94d3ee4cb8e6"), looks := false }, kinds := [], alts := [], laidByText := true, laidKinds := [.data, .data, .data, .data, .pinned], laidTests := true, laidLooks := .later }
def SegsOpensUptoCardSaid : Prop := Claim7.holds Tryd.pinned (.plain (OpenSpec.upto segsOpensSpec)) segsOpensUptoCard
end Rows
end Go.Proofs.YtffoldlhonbafaaDoor
