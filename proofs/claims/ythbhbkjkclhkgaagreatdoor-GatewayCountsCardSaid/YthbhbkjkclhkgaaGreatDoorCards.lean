/-
  DERIVED. GIVEN WITH THE SEED: THE CARDS: each row of YthbhbkjkclhkgaaGreatDoorRows.lean that lists a variable, with what it lists TIED to the program's text (the seventh form; the later family's looks); each row that meets fmt, with fmt's text TOLD by the authors' own Lean function (tested against real Go, not proved from fmt's source: count such statements apart). THE CARD IS WHAT COUNTS. Prove the row's statement (the work); the ties are given (YthbhbkjkclhkgaaGreatDoorTie.lean); close each card by the builder's one call (the guide's Derived/Test/ToyasCard.lean, 'card_holds'). Laid BY PROGRAM, IN A SANDBOX (cutbox-door.mjs). By AI agents, Wed Nov 11 2026. No macro, syntax, notation, axiom, sorry.
-/
import Derived.Test.YthbhbkjkclhkgaaGreatDoorRows
import GoSem.ClaimSeven
namespace Go.Proofs.YthbhbkjkclhkgaaGreatDoor
namespace Rows

/-- THE TIED CARD OF 'outstationlaw28.GatewaySafe'. -/
def gatewaySafeCard : Claim7 := { stood := { row := gatewaySafeRow, standIns := [], harness := (true, "1fe3377118e79fa907351a8fdb9f7178aeb7671f95296649fd72f9ef6a62c177"), looks := true }, kinds := [], alts := [], laidByText := true, laidKinds := [.data, .data, .data, .data, .data, .pinned], laidTests := true, laidLooks := .later }
def GatewaySafeCardSaid : Prop := Claim7.holds Tryz.pinned (.plain (OpenSpec.ofChange gatewaySafeSpec)) gatewaySafeCard

/-- THE TIED CARD OF 'outstationlaw28.GatewayOnce'. -/
def gatewayOnceCard : Claim7 := { stood := { row := gatewayOnceRow, standIns := [], harness := (true, "1fe3377118e79fa907351a8fdb9f7178aeb7671f95296649fd72f9ef6a62c177"), looks := true }, kinds := [], alts := [], laidByText := true, laidKinds := [.data, .data, .data, .data, .data, .pinned], laidTests := true, laidLooks := .later }
def GatewayOnceCardSaid : Prop := Claim7.holds Tryz.pinned (.plain (OpenSpec.ofChange gatewayOnceSpec)) gatewayOnceCard

/-- THE TIED CARD OF 'outstationlaw28.GatewayCounts'. -/
def gatewayCountsCard : Claim7 := { stood := { row := gatewayCountsRow, standIns := [], harness := (true, "1fe3377118e79fa907351a8fdb9f7178aeb7671f95296649fd72f9ef6a62c177"), looks := true }, kinds := [], alts := [], laidByText := true, laidKinds := [.data, .data, .data, .data, .data, .pinned], laidTests := true, laidLooks := .later }
def GatewayCountsCardSaid : Prop := Claim7.holds Tryz.pinned (.plain (OpenSpec.ofChange gatewayCountsSpec)) gatewayCountsCard

/-- THE TIED CARD OF 'outstationlaw28.GatewayRefuses'. -/
def gatewayRefusesCard : Claim7 := { stood := { row := gatewayRefusesRow, standIns := [], harness := (true, "1fe3377118e79fa907351a8fdb9f7178aeb7671f95296649fd72f9ef6a62c177"), looks := true }, kinds := [], alts := [], laidByText := true, laidKinds := [.data, .data, .data, .data, .data, .pinned], laidTests := true, laidLooks := .later }
def GatewayRefusesCardSaid : Prop := Claim7.holds Tryz.pinned (.plain (OpenSpec.ofChange gatewayRefusesSpec)) gatewayRefusesCard

/-- THE TIED CARD OF 'outstationlaw28.GatewayPlays'. -/
def gatewayPlaysCard : Claim7 := { stood := { row := gatewayPlaysRow, standIns := [], harness := (true, "1fe3377118e79fa907351a8fdb9f7178aeb7671f95296649fd72f9ef6a62c177"), looks := true }, kinds := [], alts := [], laidByText := true, laidKinds := [.data, .data, .data, .data, .data, .pinned], laidTests := true, laidLooks := .later }
def GatewayPlaysCardSaid : Prop := Claim7.holds Tryz.pinned (.plain (OpenSpec.ofChange gatewayPlaysSpec)) gatewayPlaysCard

/-- THE TIED CARD OF 'outstationlaw28.GatewayBoots'. -/
def gatewayBootsCard : Claim7 := { stood := { row := gatewayBootsRow, standIns := [], harness := (true, "1fe3377118e79fa907351a8fdb9f7178aeb7671f95296649fd72f9ef6a62c177"), looks := true }, kinds := [], alts := [], laidByText := true, laidKinds := [.data, .data, .data, .data, .data, .pinned], laidTests := true, laidLooks := .later }
def GatewayBootsCardSaid : Prop := Claim7.holds Tryz.pinned (.plain (OpenSpec.ofChange gatewayBootsSpec)) gatewayBootsCard

/-- THE TIED CARD OF 'outstationlaw28.GatewayKnown'. -/
def gatewayKnownCard : Claim7 := { stood := { row := gatewayKnownRow, standIns := [], harness := (true, "1fe3377118e79fa907351a8fdb9f7178aeb7671f95296649fd72f9ef6a62c177"), looks := true }, kinds := [], alts := [], laidByText := true, laidKinds := [.data, .data, .data, .data, .data, .pinned], laidTests := true, laidLooks := .later }
def GatewayKnownCardSaid : Prop := Claim7.holds Tryz.pinned (.plain (OpenSpec.ofChange gatewayKnownSpec)) gatewayKnownCard

/-- THE SECOND FORM's CARD OF 'outstationlaw28.GatewaySafe'. -/
def gatewaySafeUptoCard : Claim7 := { stood := { row := gatewaySafeUptoRow, standIns := [], harness := (true, "1fe3377118e79fa907351a8fdb9f7178aeb7671f95296649fd72f9ef6a62c177"), looks := true }, kinds := [], alts := [], laidByText := true, laidKinds := [.data, .data, .data, .data, .data, .pinned], laidTests := true, laidLooks := .later }
def GatewaySafeUptoCardSaid : Prop := Claim7.holds Tryz.pinned (.plain (OpenSpec.upto gatewaySafeSpec)) gatewaySafeUptoCard

/-- THE SECOND FORM's CARD OF 'outstationlaw28.GatewayOnce'. -/
def gatewayOnceUptoCard : Claim7 := { stood := { row := gatewayOnceUptoRow, standIns := [], harness := (true, "1fe3377118e79fa907351a8fdb9f7178aeb7671f95296649fd72f9ef6a62c177"), looks := true }, kinds := [], alts := [], laidByText := true, laidKinds := [.data, .data, .data, .data, .data, .pinned], laidTests := true, laidLooks := .later }
def GatewayOnceUptoCardSaid : Prop := Claim7.holds Tryz.pinned (.plain (OpenSpec.upto gatewayOnceSpec)) gatewayOnceUptoCard

/-- THE SECOND FORM's CARD OF 'outstationlaw28.GatewayCounts'. -/
def gatewayCountsUptoCard : Claim7 := { stood := { row := gatewayCountsUptoRow, standIns := [], harness := (true, "1fe3377118e79fa907351a8fdb9f7178aeb7671f95296649fd72f9ef6a62c177"), looks := true }, kinds := [], alts := [], laidByText := true, laidKinds := [.data, .data, .data, .data, .data, .pinned], laidTests := true, laidLooks := .later }
def GatewayCountsUptoCardSaid : Prop := Claim7.holds Tryz.pinned (.plain (OpenSpec.upto gatewayCountsSpec)) gatewayCountsUptoCard

/-- THE SECOND FORM's CARD OF 'outstationlaw28.GatewayRefuses'. -/
def gatewayRefusesUptoCard : Claim7 := { stood := { row := gatewayRefusesUptoRow, standIns := [], harness := (true, "1fe3377118e79fa907351a8fdb9f7178aeb7671f95296649fd72f9ef6a62c177"), looks := true }, kinds := [], alts := [], laidByText := true, laidKinds := [.data, .data, .data, .data, .data, .pinned], laidTests := true, laidLooks := .later }
def GatewayRefusesUptoCardSaid : Prop := Claim7.holds Tryz.pinned (.plain (OpenSpec.upto gatewayRefusesSpec)) gatewayRefusesUptoCard

/-- THE SECOND FORM's CARD OF 'outstationlaw28.GatewayPlays'. -/
def gatewayPlaysUptoCard : Claim7 := { stood := { row := gatewayPlaysUptoRow, standIns := [], harness := (true, "1fe3377118e79fa907351a8fdb9f7178aeb7671f95296649fd72f9ef6a62c177"), looks := true }, kinds := [], alts := [], laidByText := true, laidKinds := [.data, .data, .data, .data, .data, .pinned], laidTests := true, laidLooks := .later }
def GatewayPlaysUptoCardSaid : Prop := Claim7.holds Tryz.pinned (.plain (OpenSpec.upto gatewayPlaysSpec)) gatewayPlaysUptoCard

/-- THE SECOND FORM's CARD OF 'outstationlaw28.GatewayBoots'. -/
def gatewayBootsUptoCard : Claim7 := { stood := { row := gatewayBootsUptoRow, standIns := [], harness := (true, "1fe3377118e79fa907351a8fdb9f7178aeb7671f95296649fd72f9ef6a62c177"), looks := true }, kinds := [], alts := [], laidByText := true, laidKinds := [.data, .data, .data, .data, .data, .pinned], laidTests := true, laidLooks := .later }
def GatewayBootsUptoCardSaid : Prop := Claim7.holds Tryz.pinned (.plain (OpenSpec.upto gatewayBootsSpec)) gatewayBootsUptoCard

/-- THE SECOND FORM's CARD OF 'outstationlaw28.GatewayKnown'. -/
def gatewayKnownUptoCard : Claim7 := { stood := { row := gatewayKnownUptoRow, standIns := [], harness := (true, "1fe3377118e79fa907351a8fdb9f7178aeb7671f95296649fd72f9ef6a62c177"), looks := true }, kinds := [], alts := [], laidByText := true, laidKinds := [.data, .data, .data, .data, .data, .pinned], laidTests := true, laidLooks := .later }
def GatewayKnownUptoCardSaid : Prop := Claim7.holds Tryz.pinned (.plain (OpenSpec.upto gatewayKnownSpec)) gatewayKnownUptoCard
end Rows
end Go.Proofs.YthbhbkjkclhkgaaGreatDoor
