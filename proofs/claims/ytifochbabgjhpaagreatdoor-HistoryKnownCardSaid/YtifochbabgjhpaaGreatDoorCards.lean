/-
  DERIVED. GIVEN WITH THE SEED: THE CARDS: each row of YtifochbabgjhpaaGreatDoorRows.lean that lists a variable, with what it lists TIED to the program's text (the seventh form; the later family's looks); each row that meets fmt, with fmt's text TOLD by the authors' own Lean function (tested against real Go, not proved from fmt's source: count such statements apart). THE CARD IS WHAT COUNTS. Prove the row's statement (the work); the ties are given (YtifochbabgjhpaaGreatDoorTie.lean); close each card by the builder's one call (the guide's Derived/Test/ToyasCard.lean, 'card_holds'). Laid BY PROGRAM, IN A SANDBOX (cutbox-door.mjs). By AI agents, Wed Nov 11 2026. No macro, syntax, notation, axiom, sorry.
-/
import Derived.Test.YtifochbabgjhpaaGreatDoorRows
import GoSem.ClaimSeven
namespace Go.Proofs.YtifochbabgjhpaaGreatDoor
namespace Rows

/-- THE TIED CARD OF 'outstationlaw26.HistoryWords'. -/
def historyWordsCard : Claim7 := { stood := { row := historyWordsRow, standIns := [], harness := (true, "dbda073aeb76f19bbfaef3419ce6d3844482d411e0a0f7c279cd6f49bfe23da8"), looks := false }, kinds := [], alts := [], laidByText := true, laidKinds := [.data, .data, .data, .data, .pinned], laidTests := true, laidLooks := .later }
def HistoryWordsCardSaid : Prop := Claim7.holds Tryz.pinned (.plain (OpenSpec.ofChange historyWordsSpec)) historyWordsCard

/-- THE TIED CARD OF 'outstationlaw26.HistoryFiles'. -/
def historyFilesCard : Claim7 := { stood := { row := historyFilesRow, standIns := [], harness := (true, "dbda073aeb76f19bbfaef3419ce6d3844482d411e0a0f7c279cd6f49bfe23da8"), looks := false }, kinds := [], alts := [], laidByText := true, laidKinds := [.data, .data, .data, .data, .pinned], laidTests := true, laidLooks := .later }
def HistoryFilesCardSaid : Prop := Claim7.holds Tryz.pinned (.plain (OpenSpec.ofChange historyFilesSpec)) historyFilesCard

/-- THE TIED CARD OF 'outstationlaw26.HistoryBack'. -/
def historyBackCard : Claim7 := { stood := { row := historyBackRow, standIns := [], harness := (true, "dbda073aeb76f19bbfaef3419ce6d3844482d411e0a0f7c279cd6f49bfe23da8"), looks := false }, kinds := [], alts := [], laidByText := true, laidKinds := [.data, .data, .data, .data, .pinned], laidTests := true, laidLooks := .later }
def HistoryBackCardSaid : Prop := Claim7.holds Tryz.pinned (.plain (OpenSpec.ofChange historyBackSpec)) historyBackCard

/-- THE TIED CARD OF 'outstationlaw26.HistoryExact'. -/
def historyExactCard : Claim7 := { stood := { row := historyExactRow, standIns := [], harness := (true, "dbda073aeb76f19bbfaef3419ce6d3844482d411e0a0f7c279cd6f49bfe23da8"), looks := false }, kinds := [], alts := [], laidByText := true, laidKinds := [.data, .data, .data, .data, .pinned], laidTests := true, laidLooks := .later }
def HistoryExactCardSaid : Prop := Claim7.holds Tryz.pinned (.plain (OpenSpec.ofChange historyExactSpec)) historyExactCard

/-- THE TIED CARD OF 'outstationlaw26.HistoryDoes'. -/
def historyDoesCard : Claim7 := { stood := { row := historyDoesRow, standIns := [], harness := (true, "dbda073aeb76f19bbfaef3419ce6d3844482d411e0a0f7c279cd6f49bfe23da8"), looks := false }, kinds := [], alts := [], laidByText := true, laidKinds := [.data, .data, .data, .data, .pinned], laidTests := true, laidLooks := .later }
def HistoryDoesCardSaid : Prop := Claim7.holds Tryz.pinned (.plain (OpenSpec.ofChange historyDoesSpec)) historyDoesCard

/-- THE TIED CARD OF 'outstationlaw26.HistoryParts'. -/
def historyPartsCard : Claim7 := { stood := { row := historyPartsRow, standIns := [], harness := (true, "dbda073aeb76f19bbfaef3419ce6d3844482d411e0a0f7c279cd6f49bfe23da8"), looks := false }, kinds := [], alts := [], laidByText := true, laidKinds := [.data, .data, .data, .data, .pinned], laidTests := true, laidLooks := .later }
def HistoryPartsCardSaid : Prop := Claim7.holds Tryz.pinned (.plain (OpenSpec.ofChange historyPartsSpec)) historyPartsCard

/-- THE TIED CARD OF 'outstationlaw26.HistoryKnown'. -/
def historyKnownCard : Claim7 := { stood := { row := historyKnownRow, standIns := [], harness := (true, "dbda073aeb76f19bbfaef3419ce6d3844482d411e0a0f7c279cd6f49bfe23da8"), looks := false }, kinds := [], alts := [], laidByText := true, laidKinds := [.data, .data, .data, .data, .pinned], laidTests := true, laidLooks := .later }
def HistoryKnownCardSaid : Prop := Claim7.holds Tryz.pinned (.plain (OpenSpec.ofChange historyKnownSpec)) historyKnownCard

/-- THE SECOND FORM's CARD OF 'outstationlaw26.HistoryWords'. -/
def historyWordsUptoCard : Claim7 := { stood := { row := historyWordsUptoRow, standIns := [], harness := (true, "dbda073aeb76f19bbfaef3419ce6d3844482d411e0a0f7c279cd6f49bfe23da8"), looks := false }, kinds := [], alts := [], laidByText := true, laidKinds := [.data, .data, .data, .data, .pinned], laidTests := true, laidLooks := .later }
def HistoryWordsUptoCardSaid : Prop := Claim7.holds Tryz.pinned (.plain (OpenSpec.upto historyWordsSpec)) historyWordsUptoCard

/-- THE SECOND FORM's CARD OF 'outstationlaw26.HistoryFiles'. -/
def historyFilesUptoCard : Claim7 := { stood := { row := historyFilesUptoRow, standIns := [], harness := (true, "dbda073aeb76f19bbfaef3419ce6d3844482d411e0a0f7c279cd6f49bfe23da8"), looks := false }, kinds := [], alts := [], laidByText := true, laidKinds := [.data, .data, .data, .data, .pinned], laidTests := true, laidLooks := .later }
def HistoryFilesUptoCardSaid : Prop := Claim7.holds Tryz.pinned (.plain (OpenSpec.upto historyFilesSpec)) historyFilesUptoCard

/-- THE SECOND FORM's CARD OF 'outstationlaw26.HistoryBack'. -/
def historyBackUptoCard : Claim7 := { stood := { row := historyBackUptoRow, standIns := [], harness := (true, "dbda073aeb76f19bbfaef3419ce6d3844482d411e0a0f7c279cd6f49bfe23da8"), looks := false }, kinds := [], alts := [], laidByText := true, laidKinds := [.data, .data, .data, .data, .pinned], laidTests := true, laidLooks := .later }
def HistoryBackUptoCardSaid : Prop := Claim7.holds Tryz.pinned (.plain (OpenSpec.upto historyBackSpec)) historyBackUptoCard

/-- THE SECOND FORM's CARD OF 'outstationlaw26.HistoryExact'. -/
def historyExactUptoCard : Claim7 := { stood := { row := historyExactUptoRow, standIns := [], harness := (true, "dbda073aeb76f19bbfaef3419ce6d3844482d411e0a0f7c279cd6f49bfe23da8"), looks := false }, kinds := [], alts := [], laidByText := true, laidKinds := [.data, .data, .data, .data, .pinned], laidTests := true, laidLooks := .later }
def HistoryExactUptoCardSaid : Prop := Claim7.holds Tryz.pinned (.plain (OpenSpec.upto historyExactSpec)) historyExactUptoCard

/-- THE SECOND FORM's CARD OF 'outstationlaw26.HistoryDoes'. -/
def historyDoesUptoCard : Claim7 := { stood := { row := historyDoesUptoRow, standIns := [], harness := (true, "dbda073aeb76f19bbfaef3419ce6d3844482d411e0a0f7c279cd6f49bfe23da8"), looks := false }, kinds := [], alts := [], laidByText := true, laidKinds := [.data, .data, .data, .data, .pinned], laidTests := true, laidLooks := .later }
def HistoryDoesUptoCardSaid : Prop := Claim7.holds Tryz.pinned (.plain (OpenSpec.upto historyDoesSpec)) historyDoesUptoCard

/-- THE SECOND FORM's CARD OF 'outstationlaw26.HistoryParts'. -/
def historyPartsUptoCard : Claim7 := { stood := { row := historyPartsUptoRow, standIns := [], harness := (true, "dbda073aeb76f19bbfaef3419ce6d3844482d411e0a0f7c279cd6f49bfe23da8"), looks := false }, kinds := [], alts := [], laidByText := true, laidKinds := [.data, .data, .data, .data, .pinned], laidTests := true, laidLooks := .later }
def HistoryPartsUptoCardSaid : Prop := Claim7.holds Tryz.pinned (.plain (OpenSpec.upto historyPartsSpec)) historyPartsUptoCard

/-- THE SECOND FORM's CARD OF 'outstationlaw26.HistoryKnown'. -/
def historyKnownUptoCard : Claim7 := { stood := { row := historyKnownUptoRow, standIns := [], harness := (true, "dbda073aeb76f19bbfaef3419ce6d3844482d411e0a0f7c279cd6f49bfe23da8"), looks := false }, kinds := [], alts := [], laidByText := true, laidKinds := [.data, .data, .data, .data, .pinned], laidTests := true, laidLooks := .later }
def HistoryKnownUptoCardSaid : Prop := Claim7.holds Tryz.pinned (.plain (OpenSpec.upto historyKnownSpec)) historyKnownUptoCard
end Rows
end Go.Proofs.YtifochbabgjhpaaGreatDoor
