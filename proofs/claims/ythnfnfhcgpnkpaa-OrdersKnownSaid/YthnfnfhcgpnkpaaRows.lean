/-
  No cell of these rows narrows 'for every input' (looked for: loops, veiled, ifaces, maps, wideKeys, modest, calm, conditions, laid).
  DERIVED. THE GIVEN ROWS OF THIS SEAT. 5 by the template 'for every input the law returns true; each argument reads behind the call as it read before'; 0 by the template 'total and deterministic' (their statements: YthnfnfhcgpnkpaaTotals.lean).
  GIVEN WITH THE SEED: the statements are not yours to turn. If you find one false, say at which input.
  Laid BY PROGRAM, IN A SANDBOX (cutbox-rows.mjs): the forced cells as the released guide's own fill.sh prints them over the translation 8618230bc5a01608… (all of the seat's roots in one cut). By AI agents, Wed Nov 11 2026. No macro, syntax, notation, axiom, sorry.
-/
import Derived.Test.YthnfnfhcgpnkpaaChecked
import GoSem.Claim
import GoSem.ClaimJoined
import GoSem.ClaimMapViews
import Derived.JoinedTies
import Derived.KernelRfl
namespace Go.Proofs.Ythnfnfhcgpnkpaa
/- THE CELL 'sum', in the pinned program and in every row, IS THE sha256 OF THE DUMP (.gsa) THAT YthnfnfhcgpnkpaaProg.lean LOADS. Nothing in Lean hashes anything: it is a label: what it is worth is what the hold of that sum in a sandbox is worth. -/
noncomputable def Try.pinned : Pinned := { name := "ythnfnfhcgpnkpaa", sum := "8618230bc5a016088f971e3a142af73c3067edeaf1a66c313de1525061910b46", checked := Try.checked }
namespace Rows
def none {H : Type} : Left H := { results := [], args := [] }

/-- 'outstationlaw25.OrdersLeft': WHATEVER THE INPUT: true; the input reads as it did. -/
def ordersLeftSpec : ChangeSpec := { name := "ordersLeft", fn := fun _ => fun
  | [d1, d2] => { results := [.lit (.bool true)], args := [d1, d2] }
  | _ => none }
def ordersLeftRow : OpenClaim := { program := "ythnfnfhcgpnkpaa", sum := "8618230bc5a016088f971e3a142af73c3067edeaf1a66c313de1525061910b46", func := "outstation/outstationlaw25.OrdersLeft", spec := "ordersLeft", inPlace := ["slices.overlaps[outstation/device.file]"], unfollowed := true, recurses := true, apart := false }
def OrdersLeftSaid : Prop := ordersLeftRow.holds Try.pinned (OpenSpec.ofChange ordersLeftSpec)

/-- ITS FALSE NEIGHBOUR: 'it returns false'. Refute it at one input. -/
def ordersLeftWrong : ChangeSpec := { name := "ordersLeft", fn := fun _ => fun
  | [d1, d2] => { results := [.lit (.bool false)], args := [d1, d2] }
  | _ => none }
def OrdersLeftWrongFalsely : Prop := ordersLeftRow.holds Try.pinned (OpenSpec.ofChange ordersLeftWrong)

/-- 'outstationlaw25.OrdersOpens': WHATEVER THE INPUT: true; the input reads as it did. -/
def ordersOpensSpec : ChangeSpec := { name := "ordersOpens", fn := fun _ => fun
  | [d1, d2] => { results := [.lit (.bool true)], args := [d1, d2] }
  | _ => none }
def ordersOpensRow : OpenClaim := { program := "ythnfnfhcgpnkpaa", sum := "8618230bc5a016088f971e3a142af73c3067edeaf1a66c313de1525061910b46", func := "outstation/outstationlaw25.OrdersOpens", spec := "ordersOpens", inPlace := ["slices.overlaps[outstation/device.file]"], unfollowed := true, recurses := true, apart := false }
def OrdersOpensSaid : Prop := ordersOpensRow.holds Try.pinned (OpenSpec.ofChange ordersOpensSpec)

/-- ITS FALSE NEIGHBOUR: 'it returns false'. Refute it at one input. -/
def ordersOpensWrong : ChangeSpec := { name := "ordersOpens", fn := fun _ => fun
  | [d1, d2] => { results := [.lit (.bool false)], args := [d1, d2] }
  | _ => none }
def OrdersOpensWrongFalsely : Prop := ordersOpensRow.holds Try.pinned (OpenSpec.ofChange ordersOpensWrong)

/-- 'outstationlaw25.OrdersKept': WHATEVER THE INPUT: true; the input reads as it did. -/
def ordersKeptSpec : ChangeSpec := { name := "ordersKept", fn := fun _ => fun
  | [d] => { results := [.lit (.bool true)], args := [d] }
  | _ => none }
def ordersKeptRow : OpenClaim := { program := "ythnfnfhcgpnkpaa", sum := "8618230bc5a016088f971e3a142af73c3067edeaf1a66c313de1525061910b46", func := "outstation/outstationlaw25.OrdersKept", spec := "ordersKept", inPlace := ["slices.overlaps[outstation/device.file]"], unfollowed := true, recurses := true, apart := false }
def OrdersKeptSaid : Prop := ordersKeptRow.holds Try.pinned (OpenSpec.ofChange ordersKeptSpec)

/-- ITS FALSE NEIGHBOUR: 'it returns false'. Refute it at one input. -/
def ordersKeptWrong : ChangeSpec := { name := "ordersKept", fn := fun _ => fun
  | [d] => { results := [.lit (.bool false)], args := [d] }
  | _ => none }
def OrdersKeptWrongFalsely : Prop := ordersKeptRow.holds Try.pinned (OpenSpec.ofChange ordersKeptWrong)

/-- 'outstationlaw25.OrdersPlays': WHATEVER THE INPUT: true; the input reads as it did. -/
def ordersPlaysSpec : ChangeSpec := { name := "ordersPlays", fn := fun _ => fun
  | [d1, d2] => { results := [.lit (.bool true)], args := [d1, d2] }
  | _ => none }
def ordersPlaysRow : OpenClaim := { program := "ythnfnfhcgpnkpaa", sum := "8618230bc5a016088f971e3a142af73c3067edeaf1a66c313de1525061910b46", func := "outstation/outstationlaw25.OrdersPlays", spec := "ordersPlays", inPlace := ["slices.overlaps[outstation/device.file]"], unfollowed := true, recurses := true, apart := false }
def OrdersPlaysSaid : Prop := ordersPlaysRow.holds Try.pinned (OpenSpec.ofChange ordersPlaysSpec)

/-- ITS FALSE NEIGHBOUR: 'it returns false'. Refute it at one input. -/
def ordersPlaysWrong : ChangeSpec := { name := "ordersPlays", fn := fun _ => fun
  | [d1, d2] => { results := [.lit (.bool false)], args := [d1, d2] }
  | _ => none }
def OrdersPlaysWrongFalsely : Prop := ordersPlaysRow.holds Try.pinned (OpenSpec.ofChange ordersPlaysWrong)

/-- 'outstationlaw25.OrdersKnown': WHATEVER THE INPUT: true; the input reads as it did. -/
def ordersKnownSpec : ChangeSpec := { name := "ordersKnown", fn := fun _ => fun
  | [] => { results := [.lit (.bool true)], args := [] }
  | _ => none }
def ordersKnownRow : OpenClaim := { program := "ythnfnfhcgpnkpaa", sum := "8618230bc5a016088f971e3a142af73c3067edeaf1a66c313de1525061910b46", func := "outstation/outstationlaw25.OrdersKnown", spec := "ordersKnown", inPlace := ["slices.overlaps[outstation/device.file]"], unfollowed := true, recurses := true, apart := false }
def OrdersKnownSaid : Prop := ordersKnownRow.holds Try.pinned (OpenSpec.ofChange ordersKnownSpec)

/-- ITS FALSE NEIGHBOUR: 'it returns false'. Refute it at one input. -/
def ordersKnownWrong : ChangeSpec := { name := "ordersKnown", fn := fun _ => fun
  | [] => { results := [.lit (.bool false)], args := [] }
  | _ => none }
def OrdersKnownWrongFalsely : Prop := ordersKnownRow.holds Try.pinned (OpenSpec.ofChange ordersKnownWrong)

/- THE SECOND FORM. 'bulk': how many values and letters a reading holds, each counted each time it is reached (what is shared counts as often as it is met; a slice's spare places count too). A statement '..UptoSaid' is the law's where the arguments, and the package variables that the reading takes, are together of bulk at most 1048576: NARROWER than '..Said'. Prove '..Said' where nothing that the law and all that it calls make is longer than what came in: it says more and counts as full. Else prove '..UptoSaid'. A law counts once. -/
mutual
def uptoBulk {H : Type} : DataW H → Nat
  | .lit (.string bytes) => bytes.length + 1
  | .lit _ => 1
  | .nil => 1
  | .ptr d => uptoBulk d + 1
  | .slice elems spare => uptoBulkAll elems + uptoBulkAll spare + 1
  | .agg parts => uptoBulkAll parts + 1
  | .iface _ d => uptoBulk d + 1
  | .map entries => uptoBulkEntries entries + 1
  | .held _ => 1
def uptoBulkAll {H : Type} : List (DataW H) → Nat
  | [] => 0
  | d :: r => uptoBulk d + uptoBulkAll r
def uptoBulkEntries {H : Type} : List (Lit × DataW H) → Nat
  | [] => 0
  | x :: r => uptoBulkEntry x + uptoBulkEntries r
def uptoBulkEntry {H : Type} : Lit × DataW H → Nat
  | (.string bytes, d) => bytes.length + uptoBulk d + 1
  | (_, d) => uptoBulk d + 1
 end
def uptoSmall : (H : Type) → List (DataW H) → Bool := fun _ ds => decide (uptoBulkAll ds ≤ 1048576)
def OpenSpec.upto (s : _root_.Go.ChangeSpec) : _root_.Go.OpenSpec := { _root_.Go.OpenSpec.ofChange s with cond := some uptoSmall }

/-- 'outstationlaw25.OrdersLeft', WHERE WHAT IT READS IS OF BULK AT MOST 1048576: true; the input reads as it did. -/
def ordersLeftUptoRow : OpenClaim := { program := "ythnfnfhcgpnkpaa", sum := "8618230bc5a016088f971e3a142af73c3067edeaf1a66c313de1525061910b46", func := "outstation/outstationlaw25.OrdersLeft", spec := "ordersLeft", inPlace := ["slices.overlaps[outstation/device.file]"], unfollowed := true, recurses := true, apart := false, narrowed := true }
def OrdersLeftUptoSaid : Prop := ordersLeftUptoRow.holds Try.pinned (OpenSpec.upto ordersLeftSpec)

/-- 'outstationlaw25.OrdersOpens', WHERE WHAT IT READS IS OF BULK AT MOST 1048576: true; the input reads as it did. -/
def ordersOpensUptoRow : OpenClaim := { program := "ythnfnfhcgpnkpaa", sum := "8618230bc5a016088f971e3a142af73c3067edeaf1a66c313de1525061910b46", func := "outstation/outstationlaw25.OrdersOpens", spec := "ordersOpens", inPlace := ["slices.overlaps[outstation/device.file]"], unfollowed := true, recurses := true, apart := false, narrowed := true }
def OrdersOpensUptoSaid : Prop := ordersOpensUptoRow.holds Try.pinned (OpenSpec.upto ordersOpensSpec)

/-- 'outstationlaw25.OrdersKept', WHERE WHAT IT READS IS OF BULK AT MOST 1048576: true; the input reads as it did. -/
def ordersKeptUptoRow : OpenClaim := { program := "ythnfnfhcgpnkpaa", sum := "8618230bc5a016088f971e3a142af73c3067edeaf1a66c313de1525061910b46", func := "outstation/outstationlaw25.OrdersKept", spec := "ordersKept", inPlace := ["slices.overlaps[outstation/device.file]"], unfollowed := true, recurses := true, apart := false, narrowed := true }
def OrdersKeptUptoSaid : Prop := ordersKeptUptoRow.holds Try.pinned (OpenSpec.upto ordersKeptSpec)

/-- 'outstationlaw25.OrdersPlays', WHERE WHAT IT READS IS OF BULK AT MOST 1048576: true; the input reads as it did. -/
def ordersPlaysUptoRow : OpenClaim := { program := "ythnfnfhcgpnkpaa", sum := "8618230bc5a016088f971e3a142af73c3067edeaf1a66c313de1525061910b46", func := "outstation/outstationlaw25.OrdersPlays", spec := "ordersPlays", inPlace := ["slices.overlaps[outstation/device.file]"], unfollowed := true, recurses := true, apart := false, narrowed := true }
def OrdersPlaysUptoSaid : Prop := ordersPlaysUptoRow.holds Try.pinned (OpenSpec.upto ordersPlaysSpec)

/-- 'outstationlaw25.OrdersKnown', WHERE WHAT IT READS IS OF BULK AT MOST 1048576: true; the input reads as it did. -/
def ordersKnownUptoRow : OpenClaim := { program := "ythnfnfhcgpnkpaa", sum := "8618230bc5a016088f971e3a142af73c3067edeaf1a66c313de1525061910b46", func := "outstation/outstationlaw25.OrdersKnown", spec := "ordersKnown", inPlace := ["slices.overlaps[outstation/device.file]"], unfollowed := true, recurses := true, apart := false, narrowed := true }
def OrdersKnownUptoSaid : Prop := ordersKnownUptoRow.holds Try.pinned (OpenSpec.upto ordersKnownSpec)

end Rows
end Go.Proofs.Ythnfnfhcgpnkpaa
