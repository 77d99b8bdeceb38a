/-
  No cell of these rows narrows 'for every input' (looked for: loops, veiled, ifaces, maps, wideKeys, modest, calm, conditions, laid).
  DERIVED. THE GIVEN ROWS OF THIS SEAT. 11 by the template 'for every input the law returns true; each argument reads behind the call as it read before'; 0 by the template 'total and deterministic' (their statements: YtbdmjjeigbhidaaTotals.lean).
  GIVEN WITH THE SEED: the statements are not yours to turn. If you find one false, say at which input.
  Laid BY PROGRAM, IN A SANDBOX (cutbox-rows.mjs): the forced cells as the released guide's own fill.sh prints them over the translation fea189f7ad141bcd… (all of the seat's roots in one cut). By AI agents, Wed Nov 11 2026. No macro, syntax, notation, axiom, sorry.
-/
import Derived.Test.YtbdmjjeigbhidaaChecked
import GoSem.Claim
import GoSem.ClaimJoined
import GoSem.ClaimMapViews
import Derived.JoinedTies
import Derived.KernelRfl
namespace Go.Proofs.Ytbdmjjeigbhidaa
/- THE CELL 'sum', in the pinned program and in every row, IS THE sha256 OF THE DUMP (.gsa) THAT YtbdmjjeigbhidaaProg.lean LOADS. Nothing in Lean hashes anything: it is a label: what it is worth is what the hold of that sum in a sandbox is worth. -/
noncomputable def Try.pinned : Pinned := { name := "ytbdmjjeigbhidaa", sum := "fea189f7ad141bcd68fbd7006a1bf41043fca20efd608ccfdd16c8d6388b3e5d", checked := Try.checked }
namespace Rows
def none {H : Type} : Left H := { results := [], args := [] }

/-- 'outstationlaw12.DeviceNews': WHATEVER THE INPUT: true; the input reads as it did. -/
def deviceNewsSpec : ChangeSpec := { name := "deviceNews", fn := fun _ => fun
  | [d1, d2] => { results := [.lit (.bool true)], args := [d1, d2] }
  | _ => none }
def deviceNewsRow : OpenClaim := { program := "ytbdmjjeigbhidaa", sum := "fea189f7ad141bcd68fbd7006a1bf41043fca20efd608ccfdd16c8d6388b3e5d", func := "outstation/outstationlaw12.DeviceNews", spec := "deviceNews", inPlace := ["slices.overlaps[outstation/device.file]"], unfollowed := true, recurses := true, apart := false }
def DeviceNewsSaid : Prop := deviceNewsRow.holds Try.pinned (OpenSpec.ofChange deviceNewsSpec)

/-- ITS FALSE NEIGHBOUR: 'it returns false'. Refute it at one input. -/
def deviceNewsWrong : ChangeSpec := { name := "deviceNews", fn := fun _ => fun
  | [d1, d2] => { results := [.lit (.bool false)], args := [d1, d2] }
  | _ => none }
def DeviceNewsWrongFalsely : Prop := deviceNewsRow.holds Try.pinned (OpenSpec.ofChange deviceNewsWrong)

/-- 'outstationlaw12.DeviceLasts': WHATEVER THE INPUT: true; the input reads as it did. -/
def deviceLastsSpec : ChangeSpec := { name := "deviceLasts", fn := fun _ => fun
  | [d1, d2, d3, d4] => { results := [.lit (.bool true)], args := [d1, d2, d3, d4] }
  | _ => none }
def deviceLastsRow : OpenClaim := { program := "ytbdmjjeigbhidaa", sum := "fea189f7ad141bcd68fbd7006a1bf41043fca20efd608ccfdd16c8d6388b3e5d", func := "outstation/outstationlaw12.DeviceLasts", spec := "deviceLasts", inPlace := ["slices.overlaps[outstation/device.file]"], unfollowed := true, recurses := true, apart := false }
def DeviceLastsSaid : Prop := deviceLastsRow.holds Try.pinned (OpenSpec.ofChange deviceLastsSpec)

/-- ITS FALSE NEIGHBOUR: 'it returns false'. Refute it at one input. -/
def deviceLastsWrong : ChangeSpec := { name := "deviceLasts", fn := fun _ => fun
  | [d1, d2, d3, d4] => { results := [.lit (.bool false)], args := [d1, d2, d3, d4] }
  | _ => none }
def DeviceLastsWrongFalsely : Prop := deviceLastsRow.holds Try.pinned (OpenSpec.ofChange deviceLastsWrong)

/-- 'outstationlaw12.DeviceRoom': WHATEVER THE INPUT: true; the input reads as it did. -/
def deviceRoomSpec : ChangeSpec := { name := "deviceRoom", fn := fun _ => fun
  | [d1, d2] => { results := [.lit (.bool true)], args := [d1, d2] }
  | _ => none }
def deviceRoomRow : OpenClaim := { program := "ytbdmjjeigbhidaa", sum := "fea189f7ad141bcd68fbd7006a1bf41043fca20efd608ccfdd16c8d6388b3e5d", func := "outstation/outstationlaw12.DeviceRoom", spec := "deviceRoom", inPlace := ["slices.overlaps[outstation/device.file]"], unfollowed := true, recurses := true, apart := false }
def DeviceRoomSaid : Prop := deviceRoomRow.holds Try.pinned (OpenSpec.ofChange deviceRoomSpec)

/-- ITS FALSE NEIGHBOUR: 'it returns false'. Refute it at one input. -/
def deviceRoomWrong : ChangeSpec := { name := "deviceRoom", fn := fun _ => fun
  | [d1, d2] => { results := [.lit (.bool false)], args := [d1, d2] }
  | _ => none }
def DeviceRoomWrongFalsely : Prop := deviceRoomRow.holds Try.pinned (OpenSpec.ofChange deviceRoomWrong)

/-- 'outstationlaw12.DeviceRenamed': WHATEVER THE INPUT: true; the input reads as it did. -/
def deviceRenamedSpec : ChangeSpec := { name := "deviceRenamed", fn := fun _ => fun
  | [d1, d2, d3, d4] => { results := [.lit (.bool true)], args := [d1, d2, d3, d4] }
  | _ => none }
def deviceRenamedRow : OpenClaim := { program := "ytbdmjjeigbhidaa", sum := "fea189f7ad141bcd68fbd7006a1bf41043fca20efd608ccfdd16c8d6388b3e5d", func := "outstation/outstationlaw12.DeviceRenamed", spec := "deviceRenamed", inPlace := ["slices.overlaps[outstation/device.file]"], unfollowed := true, recurses := true, apart := false }
def DeviceRenamedSaid : Prop := deviceRenamedRow.holds Try.pinned (OpenSpec.ofChange deviceRenamedSpec)

/-- ITS FALSE NEIGHBOUR: 'it returns false'. Refute it at one input. -/
def deviceRenamedWrong : ChangeSpec := { name := "deviceRenamed", fn := fun _ => fun
  | [d1, d2, d3, d4] => { results := [.lit (.bool false)], args := [d1, d2, d3, d4] }
  | _ => none }
def DeviceRenamedWrongFalsely : Prop := deviceRenamedRow.holds Try.pinned (OpenSpec.ofChange deviceRenamedWrong)

/-- 'outstationlaw12.DeviceRuns': WHATEVER THE INPUT: true; the input reads as it did. -/
def deviceRunsSpec : ChangeSpec := { name := "deviceRuns", fn := fun _ => fun
  | [d1, d2] => { results := [.lit (.bool true)], args := [d1, d2] }
  | _ => none }
def deviceRunsRow : OpenClaim := { program := "ytbdmjjeigbhidaa", sum := "fea189f7ad141bcd68fbd7006a1bf41043fca20efd608ccfdd16c8d6388b3e5d", func := "outstation/outstationlaw12.DeviceRuns", spec := "deviceRuns", inPlace := ["slices.overlaps[outstation/device.file]"], unfollowed := true, recurses := true, apart := false }
def DeviceRunsSaid : Prop := deviceRunsRow.holds Try.pinned (OpenSpec.ofChange deviceRunsSpec)

/-- ITS FALSE NEIGHBOUR: 'it returns false'. Refute it at one input. -/
def deviceRunsWrong : ChangeSpec := { name := "deviceRuns", fn := fun _ => fun
  | [d1, d2] => { results := [.lit (.bool false)], args := [d1, d2] }
  | _ => none }
def DeviceRunsWrongFalsely : Prop := deviceRunsRow.holds Try.pinned (OpenSpec.ofChange deviceRunsWrong)

/-- 'outstationlaw12.DeviceFails': WHATEVER THE INPUT: true; the input reads as it did. -/
def deviceFailsSpec : ChangeSpec := { name := "deviceFails", fn := fun _ => fun
  | [d1, d2] => { results := [.lit (.bool true)], args := [d1, d2] }
  | _ => none }
def deviceFailsRow : OpenClaim := { program := "ytbdmjjeigbhidaa", sum := "fea189f7ad141bcd68fbd7006a1bf41043fca20efd608ccfdd16c8d6388b3e5d", func := "outstation/outstationlaw12.DeviceFails", spec := "deviceFails", inPlace := ["slices.overlaps[outstation/device.file]"], unfollowed := true, recurses := true, apart := false }
def DeviceFailsSaid : Prop := deviceFailsRow.holds Try.pinned (OpenSpec.ofChange deviceFailsSpec)

/-- ITS FALSE NEIGHBOUR: 'it returns false'. Refute it at one input. -/
def deviceFailsWrong : ChangeSpec := { name := "deviceFails", fn := fun _ => fun
  | [d1, d2] => { results := [.lit (.bool false)], args := [d1, d2] }
  | _ => none }
def DeviceFailsWrongFalsely : Prop := deviceFailsRow.holds Try.pinned (OpenSpec.ofChange deviceFailsWrong)

/-- 'outstationlaw12.DeviceKnown': WHATEVER THE INPUT: true; the input reads as it did. -/
def deviceKnownSpec : ChangeSpec := { name := "deviceKnown", fn := fun _ => fun
  | [] => { results := [.lit (.bool true)], args := [] }
  | _ => none }
def deviceKnownRow : OpenClaim := { program := "ytbdmjjeigbhidaa", sum := "fea189f7ad141bcd68fbd7006a1bf41043fca20efd608ccfdd16c8d6388b3e5d", func := "outstation/outstationlaw12.DeviceKnown", spec := "deviceKnown", inPlace := ["slices.overlaps[outstation/device.file]"], unfollowed := true, recurses := true, apart := false }
def DeviceKnownSaid : Prop := deviceKnownRow.holds Try.pinned (OpenSpec.ofChange deviceKnownSpec)

/-- ITS FALSE NEIGHBOUR: 'it returns false'. Refute it at one input. -/
def deviceKnownWrong : ChangeSpec := { name := "deviceKnown", fn := fun _ => fun
  | [] => { results := [.lit (.bool false)], args := [] }
  | _ => none }
def DeviceKnownWrongFalsely : Prop := deviceKnownRow.holds Try.pinned (OpenSpec.ofChange deviceKnownWrong)

/-- 'outstationlaw24.CursorSpoilt': WHATEVER THE INPUT: true; the input reads as it did. -/
def cursorSpoiltSpec : ChangeSpec := { name := "cursorSpoilt", fn := fun _ => fun
  | [d1, d2, d3, d4] => { results := [.lit (.bool true)], args := [d1, d2, d3, d4] }
  | _ => none }
def cursorSpoiltRow : OpenClaim := { program := "ytbdmjjeigbhidaa", sum := "fea189f7ad141bcd68fbd7006a1bf41043fca20efd608ccfdd16c8d6388b3e5d", func := "outstation/outstationlaw24.CursorSpoilt", spec := "cursorSpoilt", inPlace := ["slices.overlaps[outstation/device.file]"], unfollowed := true, recurses := true, apart := false }
def CursorSpoiltSaid : Prop := cursorSpoiltRow.holds Try.pinned (OpenSpec.ofChange cursorSpoiltSpec)

/-- ITS FALSE NEIGHBOUR: 'it returns false'. Refute it at one input. -/
def cursorSpoiltWrong : ChangeSpec := { name := "cursorSpoilt", fn := fun _ => fun
  | [d1, d2, d3, d4] => { results := [.lit (.bool false)], args := [d1, d2, d3, d4] }
  | _ => none }
def CursorSpoiltWrongFalsely : Prop := cursorSpoiltRow.holds Try.pinned (OpenSpec.ofChange cursorSpoiltWrong)

/-- 'outstationlaw24.CursorLasts': WHATEVER THE INPUT: true; the input reads as it did. -/
def cursorLastsSpec : ChangeSpec := { name := "cursorLasts", fn := fun _ => fun
  | [d1, d2, d3] => { results := [.lit (.bool true)], args := [d1, d2, d3] }
  | _ => none }
def cursorLastsRow : OpenClaim := { program := "ytbdmjjeigbhidaa", sum := "fea189f7ad141bcd68fbd7006a1bf41043fca20efd608ccfdd16c8d6388b3e5d", func := "outstation/outstationlaw24.CursorLasts", spec := "cursorLasts", inPlace := ["slices.overlaps[outstation/device.file]"], unfollowed := true, recurses := true, apart := false }
def CursorLastsSaid : Prop := cursorLastsRow.holds Try.pinned (OpenSpec.ofChange cursorLastsSpec)

/-- ITS FALSE NEIGHBOUR: 'it returns false'. Refute it at one input. -/
def cursorLastsWrong : ChangeSpec := { name := "cursorLasts", fn := fun _ => fun
  | [d1, d2, d3] => { results := [.lit (.bool false)], args := [d1, d2, d3] }
  | _ => none }
def CursorLastsWrongFalsely : Prop := cursorLastsRow.holds Try.pinned (OpenSpec.ofChange cursorLastsWrong)

/-- 'outstationlaw24.CursorRuns': WHATEVER THE INPUT: true; the input reads as it did. -/
def cursorRunsSpec : ChangeSpec := { name := "cursorRuns", fn := fun _ => fun
  | [d1, d2] => { results := [.lit (.bool true)], args := [d1, d2] }
  | _ => none }
def cursorRunsRow : OpenClaim := { program := "ytbdmjjeigbhidaa", sum := "fea189f7ad141bcd68fbd7006a1bf41043fca20efd608ccfdd16c8d6388b3e5d", func := "outstation/outstationlaw24.CursorRuns", spec := "cursorRuns", inPlace := ["slices.overlaps[outstation/device.file]"], unfollowed := true, recurses := true, apart := false }
def CursorRunsSaid : Prop := cursorRunsRow.holds Try.pinned (OpenSpec.ofChange cursorRunsSpec)

/-- ITS FALSE NEIGHBOUR: 'it returns false'. Refute it at one input. -/
def cursorRunsWrong : ChangeSpec := { name := "cursorRuns", fn := fun _ => fun
  | [d1, d2] => { results := [.lit (.bool false)], args := [d1, d2] }
  | _ => none }
def CursorRunsWrongFalsely : Prop := cursorRunsRow.holds Try.pinned (OpenSpec.ofChange cursorRunsWrong)

/-- 'outstationlaw24.CursorKnown': WHATEVER THE INPUT: true; the input reads as it did. -/
def cursorKnownSpec : ChangeSpec := { name := "cursorKnown", fn := fun _ => fun
  | [] => { results := [.lit (.bool true)], args := [] }
  | _ => none }
def cursorKnownRow : OpenClaim := { program := "ytbdmjjeigbhidaa", sum := "fea189f7ad141bcd68fbd7006a1bf41043fca20efd608ccfdd16c8d6388b3e5d", func := "outstation/outstationlaw24.CursorKnown", spec := "cursorKnown", inPlace := ["slices.overlaps[outstation/device.file]"], unfollowed := true, recurses := true, apart := false }
def CursorKnownSaid : Prop := cursorKnownRow.holds Try.pinned (OpenSpec.ofChange cursorKnownSpec)

/-- ITS FALSE NEIGHBOUR: 'it returns false'. Refute it at one input. -/
def cursorKnownWrong : ChangeSpec := { name := "cursorKnown", fn := fun _ => fun
  | [] => { results := [.lit (.bool false)], args := [] }
  | _ => none }
def CursorKnownWrongFalsely : Prop := cursorKnownRow.holds Try.pinned (OpenSpec.ofChange cursorKnownWrong)

/- THE SECOND FORM. 'bulk': how many values and letters a reading holds, each counted each time it is reached (what is shared counts as often as it is met; a slice's spare places count too). A statement '..UptoSaid' is the law's where the arguments, and the package variables that the reading takes, are together of bulk at most 1048576: NARROWER than '..Said'. Prove '..Said' where nothing that the law and all that it calls make is longer than what came in: it says more and counts as full. Else prove '..UptoSaid'. A law counts once. -/
mutual
def uptoBulk {H : Type} : DataW H → Nat
  | .lit (.string bytes) => bytes.length + 1
  | .lit _ => 1
  | .nil => 1
  | .ptr d => uptoBulk d + 1
  | .slice elems spare => uptoBulkAll elems + uptoBulkAll spare + 1
  | .agg parts => uptoBulkAll parts + 1
  | .iface _ d => uptoBulk d + 1
  | .map entries => uptoBulkEntries entries + 1
  | .held _ => 1
def uptoBulkAll {H : Type} : List (DataW H) → Nat
  | [] => 0
  | d :: r => uptoBulk d + uptoBulkAll r
def uptoBulkEntries {H : Type} : List (Lit × DataW H) → Nat
  | [] => 0
  | x :: r => uptoBulkEntry x + uptoBulkEntries r
def uptoBulkEntry {H : Type} : Lit × DataW H → Nat
  | (.string bytes, d) => bytes.length + uptoBulk d + 1
  | (_, d) => uptoBulk d + 1
 end
def uptoSmall : (H : Type) → List (DataW H) → Bool := fun _ ds => decide (uptoBulkAll ds ≤ 1048576)
def OpenSpec.upto (s : _root_.Go.ChangeSpec) : _root_.Go.OpenSpec := { _root_.Go.OpenSpec.ofChange s with cond := some uptoSmall }

/-- 'outstationlaw12.DeviceNews', WHERE WHAT IT READS IS OF BULK AT MOST 1048576: true; the input reads as it did. -/
def deviceNewsUptoRow : OpenClaim := { program := "ytbdmjjeigbhidaa", sum := "fea189f7ad141bcd68fbd7006a1bf41043fca20efd608ccfdd16c8d6388b3e5d", func := "outstation/outstationlaw12.DeviceNews", spec := "deviceNews", inPlace := ["slices.overlaps[outstation/device.file]"], unfollowed := true, recurses := true, apart := false, narrowed := true }
def DeviceNewsUptoSaid : Prop := deviceNewsUptoRow.holds Try.pinned (OpenSpec.upto deviceNewsSpec)

/-- 'outstationlaw12.DeviceLasts', WHERE WHAT IT READS IS OF BULK AT MOST 1048576: true; the input reads as it did. -/
def deviceLastsUptoRow : OpenClaim := { program := "ytbdmjjeigbhidaa", sum := "fea189f7ad141bcd68fbd7006a1bf41043fca20efd608ccfdd16c8d6388b3e5d", func := "outstation/outstationlaw12.DeviceLasts", spec := "deviceLasts", inPlace := ["slices.overlaps[outstation/device.file]"], unfollowed := true, recurses := true, apart := false, narrowed := true }
def DeviceLastsUptoSaid : Prop := deviceLastsUptoRow.holds Try.pinned (OpenSpec.upto deviceLastsSpec)

/-- 'outstationlaw12.DeviceRoom', WHERE WHAT IT READS IS OF BULK AT MOST 1048576: true; the input reads as it did. -/
def deviceRoomUptoRow : OpenClaim := { program := "ytbdmjjeigbhidaa", sum := "fea189f7ad141bcd68fbd7006a1bf41043fca20efd608ccfdd16c8d6388b3e5d", func := "outstation/outstationlaw12.DeviceRoom", spec := "deviceRoom", inPlace := ["slices.overlaps[outstation/device.file]"], unfollowed := true, recurses := true, apart := false, narrowed := true }
def DeviceRoomUptoSaid : Prop := deviceRoomUptoRow.holds Try.pinned (OpenSpec.upto deviceRoomSpec)

/-- 'outstationlaw12.DeviceRenamed', WHERE WHAT IT READS IS OF BULK AT MOST 1048576: true; the input reads as it did. -/
def deviceRenamedUptoRow : OpenClaim := { program := "ytbdmjjeigbhidaa", sum := "fea189f7ad141bcd68fbd7006a1bf41043fca20efd608ccfdd16c8d6388b3e5d", func := "outstation/outstationlaw12.DeviceRenamed", spec := "deviceRenamed", inPlace := ["slices.overlaps[outstation/device.file]"], unfollowed := true, recurses := true, apart := false, narrowed := true }
def DeviceRenamedUptoSaid : Prop := deviceRenamedUptoRow.holds Try.pinned (OpenSpec.upto deviceRenamedSpec)

/-- 'outstationlaw12.DeviceRuns', WHERE WHAT IT READS IS OF BULK AT MOST 1048576: true; the input reads as it did. -/
def deviceRunsUptoRow : OpenClaim := { program := "ytbdmjjeigbhidaa", sum := "fea189f7ad141bcd68fbd7006a1bf41043fca20efd608ccfdd16c8d6388b3e5d", func := "outstation/outstationlaw12.DeviceRuns", spec := "deviceRuns", inPlace := ["slices.overlaps[outstation/device.file]"], unfollowed := true, recurses := true, apart := false, narrowed := true }
def DeviceRunsUptoSaid : Prop := deviceRunsUptoRow.holds Try.pinned (OpenSpec.upto deviceRunsSpec)

/-- 'outstationlaw12.DeviceFails', WHERE WHAT IT READS IS OF BULK AT MOST 1048576: true; the input reads as it did. -/
def deviceFailsUptoRow : OpenClaim := { program := "ytbdmjjeigbhidaa", sum := "fea189f7ad141bcd68fbd7006a1bf41043fca20efd608ccfdd16c8d6388b3e5d", func := "outstation/outstationlaw12.DeviceFails", spec := "deviceFails", inPlace := ["slices.overlaps[outstation/device.file]"], unfollowed := true, recurses := true, apart := false, narrowed := true }
def DeviceFailsUptoSaid : Prop := deviceFailsUptoRow.holds Try.pinned (OpenSpec.upto deviceFailsSpec)

/-- 'outstationlaw12.DeviceKnown', WHERE WHAT IT READS IS OF BULK AT MOST 1048576: true; the input reads as it did. -/
def deviceKnownUptoRow : OpenClaim := { program := "ytbdmjjeigbhidaa", sum := "fea189f7ad141bcd68fbd7006a1bf41043fca20efd608ccfdd16c8d6388b3e5d", func := "outstation/outstationlaw12.DeviceKnown", spec := "deviceKnown", inPlace := ["slices.overlaps[outstation/device.file]"], unfollowed := true, recurses := true, apart := false, narrowed := true }
def DeviceKnownUptoSaid : Prop := deviceKnownUptoRow.holds Try.pinned (OpenSpec.upto deviceKnownSpec)

/-- 'outstationlaw24.CursorSpoilt', WHERE WHAT IT READS IS OF BULK AT MOST 1048576: true; the input reads as it did. -/
def cursorSpoiltUptoRow : OpenClaim := { program := "ytbdmjjeigbhidaa", sum := "fea189f7ad141bcd68fbd7006a1bf41043fca20efd608ccfdd16c8d6388b3e5d", func := "outstation/outstationlaw24.CursorSpoilt", spec := "cursorSpoilt", inPlace := ["slices.overlaps[outstation/device.file]"], unfollowed := true, recurses := true, apart := false, narrowed := true }
def CursorSpoiltUptoSaid : Prop := cursorSpoiltUptoRow.holds Try.pinned (OpenSpec.upto cursorSpoiltSpec)

/-- 'outstationlaw24.CursorLasts', WHERE WHAT IT READS IS OF BULK AT MOST 1048576: true; the input reads as it did. -/
def cursorLastsUptoRow : OpenClaim := { program := "ytbdmjjeigbhidaa", sum := "fea189f7ad141bcd68fbd7006a1bf41043fca20efd608ccfdd16c8d6388b3e5d", func := "outstation/outstationlaw24.CursorLasts", spec := "cursorLasts", inPlace := ["slices.overlaps[outstation/device.file]"], unfollowed := true, recurses := true, apart := false, narrowed := true }
def CursorLastsUptoSaid : Prop := cursorLastsUptoRow.holds Try.pinned (OpenSpec.upto cursorLastsSpec)

/-- 'outstationlaw24.CursorRuns', WHERE WHAT IT READS IS OF BULK AT MOST 1048576: true; the input reads as it did. -/
def cursorRunsUptoRow : OpenClaim := { program := "ytbdmjjeigbhidaa", sum := "fea189f7ad141bcd68fbd7006a1bf41043fca20efd608ccfdd16c8d6388b3e5d", func := "outstation/outstationlaw24.CursorRuns", spec := "cursorRuns", inPlace := ["slices.overlaps[outstation/device.file]"], unfollowed := true, recurses := true, apart := false, narrowed := true }
def CursorRunsUptoSaid : Prop := cursorRunsUptoRow.holds Try.pinned (OpenSpec.upto cursorRunsSpec)

/-- 'outstationlaw24.CursorKnown', WHERE WHAT IT READS IS OF BULK AT MOST 1048576: true; the input reads as it did. -/
def cursorKnownUptoRow : OpenClaim := { program := "ytbdmjjeigbhidaa", sum := "fea189f7ad141bcd68fbd7006a1bf41043fca20efd608ccfdd16c8d6388b3e5d", func := "outstation/outstationlaw24.CursorKnown", spec := "cursorKnown", inPlace := ["slices.overlaps[outstation/device.file]"], unfollowed := true, recurses := true, apart := false, narrowed := true }
def CursorKnownUptoSaid : Prop := cursorKnownUptoRow.holds Try.pinned (OpenSpec.upto cursorKnownSpec)

end Rows
end Go.Proofs.Ytbdmjjeigbhidaa
