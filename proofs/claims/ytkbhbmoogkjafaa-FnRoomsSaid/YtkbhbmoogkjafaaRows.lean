/-
  No cell of these rows narrows 'for every input' (looked for: loops, veiled, ifaces, maps, wideKeys, modest, calm, conditions, laid).
  DERIVED. THE GIVEN ROWS OF THIS SEAT. 10 by the template 'for every input the law returns true; each argument reads behind the call as it read before'; 0 by the template 'total and deterministic' (their statements: YtkbhbmoogkjafaaTotals.lean).
  GIVEN WITH THE SEED: the statements are not yours to turn. If you find one false, say at which input.
  Laid BY PROGRAM, IN A SANDBOX (cutbox-rows.mjs): the forced cells as the released guide's own fill.sh prints them over the translation e826ead0f7a71891… (all of the seat's roots in one cut). By AI agents, Wed Nov 11 2026. No macro, syntax, notation, axiom, sorry.
-/
import Derived.Test.YtkbhbmoogkjafaaChecked
import GoSem.Claim
import GoSem.ClaimJoined
import GoSem.ClaimMapViews
import Derived.JoinedTies
import Derived.KernelRfl
namespace Go.Proofs.Ytkbhbmoogkjafaa
/- THE CELL 'sum', in the pinned program and in every row, IS THE sha256 OF THE DUMP (.gsa) THAT YtkbhbmoogkjafaaProg.lean LOADS. Nothing in Lean hashes anything: it is a label: what it is worth is what the hold of that sum in a sandbox is worth. -/
noncomputable def Try.pinned : Pinned := { name := "ytkbhbmoogkjafaa", sum := "e826ead0f7a71891a67917705d13fae24ff1dc28f0dc4cd4f73b09d1b3eb3872", checked := Try.checked }
namespace Rows
def none {H : Type} : Left H := { results := [], args := [] }

/-- 'laws.FnFirings': WHATEVER THE INPUT: true; the input reads as it did. -/
def fnFiringsSpec : ChangeSpec := { name := "fnFirings", fn := fun _ => fun
  | [d] => { results := [.lit (.bool true)], args := [d] }
  | _ => none }
def fnFiringsRow : OpenClaim := { program := "ytkbhbmoogkjafaa", sum := "e826ead0f7a71891a67917705d13fae24ff1dc28f0dc4cd4f73b09d1b3eb3872", func := "loop.example/g00941/laws.FnFirings", spec := "fnFirings", unfollowed := true, recurses := true, apart := false }
def FnFiringsSaid : Prop := fnFiringsRow.holds Try.pinned (OpenSpec.ofChange fnFiringsSpec)

/-- ITS FALSE NEIGHBOUR: 'it returns false'. Refute it at one input. -/
def fnFiringsWrong : ChangeSpec := { name := "fnFirings", fn := fun _ => fun
  | [d] => { results := [.lit (.bool false)], args := [d] }
  | _ => none }
def FnFiringsWrongFalsely : Prop := fnFiringsRow.holds Try.pinned (OpenSpec.ofChange fnFiringsWrong)

/-- 'laws.FnFiring': WHATEVER THE INPUT: true; the input reads as it did. -/
def fnFiringSpec : ChangeSpec := { name := "fnFiring", fn := fun _ => fun
  | [d] => { results := [.lit (.bool true)], args := [d] }
  | _ => none }
def fnFiringRow : OpenClaim := { program := "ytkbhbmoogkjafaa", sum := "e826ead0f7a71891a67917705d13fae24ff1dc28f0dc4cd4f73b09d1b3eb3872", func := "loop.example/g00941/laws.FnFiring", spec := "fnFiring", unfollowed := true, recurses := true, apart := false }
def FnFiringSaid : Prop := fnFiringRow.holds Try.pinned (OpenSpec.ofChange fnFiringSpec)

/-- ITS FALSE NEIGHBOUR: 'it returns false'. Refute it at one input. -/
def fnFiringWrong : ChangeSpec := { name := "fnFiring", fn := fun _ => fun
  | [d] => { results := [.lit (.bool false)], args := [d] }
  | _ => none }
def FnFiringWrongFalsely : Prop := fnFiringRow.holds Try.pinned (OpenSpec.ofChange fnFiringWrong)

/-- 'laws.FnTokenBounds': WHATEVER THE INPUT: true; the input reads as it did. -/
def fnTokenBoundsSpec : ChangeSpec := { name := "fnTokenBounds", fn := fun _ => fun
  | [d] => { results := [.lit (.bool true)], args := [d] }
  | _ => none }
def fnTokenBoundsRow : OpenClaim := { program := "ytkbhbmoogkjafaa", sum := "e826ead0f7a71891a67917705d13fae24ff1dc28f0dc4cd4f73b09d1b3eb3872", func := "loop.example/g00941/laws.FnTokenBounds", spec := "fnTokenBounds", unfollowed := true, recurses := true, apart := false }
def FnTokenBoundsSaid : Prop := fnTokenBoundsRow.holds Try.pinned (OpenSpec.ofChange fnTokenBoundsSpec)

/-- ITS FALSE NEIGHBOUR: 'it returns false'. Refute it at one input. -/
def fnTokenBoundsWrong : ChangeSpec := { name := "fnTokenBounds", fn := fun _ => fun
  | [d] => { results := [.lit (.bool false)], args := [d] }
  | _ => none }
def FnTokenBoundsWrongFalsely : Prop := fnTokenBoundsRow.holds Try.pinned (OpenSpec.ofChange fnTokenBoundsWrong)

/-- 'laws.FnCircuits': WHATEVER THE INPUT: true; the input reads as it did. -/
def fnCircuitsSpec : ChangeSpec := { name := "fnCircuits", fn := fun _ => fun
  | [d] => { results := [.lit (.bool true)], args := [d] }
  | _ => none }
def fnCircuitsRow : OpenClaim := { program := "ytkbhbmoogkjafaa", sum := "e826ead0f7a71891a67917705d13fae24ff1dc28f0dc4cd4f73b09d1b3eb3872", func := "loop.example/g00941/laws.FnCircuits", spec := "fnCircuits", unfollowed := true, recurses := true, apart := false }
def FnCircuitsSaid : Prop := fnCircuitsRow.holds Try.pinned (OpenSpec.ofChange fnCircuitsSpec)

/-- ITS FALSE NEIGHBOUR: 'it returns false'. Refute it at one input. -/
def fnCircuitsWrong : ChangeSpec := { name := "fnCircuits", fn := fun _ => fun
  | [d] => { results := [.lit (.bool false)], args := [d] }
  | _ => none }
def FnCircuitsWrongFalsely : Prop := fnCircuitsRow.holds Try.pinned (OpenSpec.ofChange fnCircuitsWrong)

/-- 'laws.FnExactLeastRoom': WHATEVER THE INPUT: true; the input reads as it did. -/
def fnExactLeastRoomSpec : ChangeSpec := { name := "fnExactLeastRoom", fn := fun _ => fun
  | [d1, d2, d3] => { results := [.lit (.bool true)], args := [d1, d2, d3] }
  | _ => none }
def fnExactLeastRoomRow : OpenClaim := { program := "ytkbhbmoogkjafaa", sum := "e826ead0f7a71891a67917705d13fae24ff1dc28f0dc4cd4f73b09d1b3eb3872", func := "loop.example/g00941/laws.FnExactLeastRoom", spec := "fnExactLeastRoom", unfollowed := true, recurses := true, apart := false }
def FnExactLeastRoomSaid : Prop := fnExactLeastRoomRow.holds Try.pinned (OpenSpec.ofChange fnExactLeastRoomSpec)

/-- ITS FALSE NEIGHBOUR: 'it returns false'. Refute it at one input. -/
def fnExactLeastRoomWrong : ChangeSpec := { name := "fnExactLeastRoom", fn := fun _ => fun
  | [d1, d2, d3] => { results := [.lit (.bool false)], args := [d1, d2, d3] }
  | _ => none }
def FnExactLeastRoomWrongFalsely : Prop := fnExactLeastRoomRow.holds Try.pinned (OpenSpec.ofChange fnExactLeastRoomWrong)

/-- 'laws.FnExactRoomTimes': WHATEVER THE INPUT: true; the input reads as it did. -/
def fnExactRoomTimesSpec : ChangeSpec := { name := "fnExactRoomTimes", fn := fun _ => fun
  | [d1, d2] => { results := [.lit (.bool true)], args := [d1, d2] }
  | _ => none }
def fnExactRoomTimesRow : OpenClaim := { program := "ytkbhbmoogkjafaa", sum := "e826ead0f7a71891a67917705d13fae24ff1dc28f0dc4cd4f73b09d1b3eb3872", func := "loop.example/g00941/laws.FnExactRoomTimes", spec := "fnExactRoomTimes", unfollowed := true, recurses := true, apart := false }
def FnExactRoomTimesSaid : Prop := fnExactRoomTimesRow.holds Try.pinned (OpenSpec.ofChange fnExactRoomTimesSpec)

/-- ITS FALSE NEIGHBOUR: 'it returns false'. Refute it at one input. -/
def fnExactRoomTimesWrong : ChangeSpec := { name := "fnExactRoomTimes", fn := fun _ => fun
  | [d1, d2] => { results := [.lit (.bool false)], args := [d1, d2] }
  | _ => none }
def FnExactRoomTimesWrongFalsely : Prop := fnExactRoomTimesRow.holds Try.pinned (OpenSpec.ofChange fnExactRoomTimesWrong)

/-- 'laws.FnExactLeastRooms': WHATEVER THE INPUT: true; the input reads as it did. -/
def fnExactLeastRoomsSpec : ChangeSpec := { name := "fnExactLeastRooms", fn := fun _ => fun
  | [d1, d2, d3] => { results := [.lit (.bool true)], args := [d1, d2, d3] }
  | _ => none }
def fnExactLeastRoomsRow : OpenClaim := { program := "ytkbhbmoogkjafaa", sum := "e826ead0f7a71891a67917705d13fae24ff1dc28f0dc4cd4f73b09d1b3eb3872", func := "loop.example/g00941/laws.FnExactLeastRooms", spec := "fnExactLeastRooms", unfollowed := true, recurses := true, apart := false }
def FnExactLeastRoomsSaid : Prop := fnExactLeastRoomsRow.holds Try.pinned (OpenSpec.ofChange fnExactLeastRoomsSpec)

/-- ITS FALSE NEIGHBOUR: 'it returns false'. Refute it at one input. -/
def fnExactLeastRoomsWrong : ChangeSpec := { name := "fnExactLeastRooms", fn := fun _ => fun
  | [d1, d2, d3] => { results := [.lit (.bool false)], args := [d1, d2, d3] }
  | _ => none }
def FnExactLeastRoomsWrongFalsely : Prop := fnExactLeastRoomsRow.holds Try.pinned (OpenSpec.ofChange fnExactLeastRoomsWrong)

/-- 'laws.FnRooms': WHATEVER THE INPUT: true; the input reads as it did. -/
def fnRoomsSpec : ChangeSpec := { name := "fnRooms", fn := fun _ => fun
  | [d] => { results := [.lit (.bool true)], args := [d] }
  | _ => none }
def fnRoomsRow : OpenClaim := { program := "ytkbhbmoogkjafaa", sum := "e826ead0f7a71891a67917705d13fae24ff1dc28f0dc4cd4f73b09d1b3eb3872", func := "loop.example/g00941/laws.FnRooms", spec := "fnRooms", unfollowed := true, recurses := true, apart := false }
def FnRoomsSaid : Prop := fnRoomsRow.holds Try.pinned (OpenSpec.ofChange fnRoomsSpec)

/-- ITS FALSE NEIGHBOUR: 'it returns false'. Refute it at one input. -/
def fnRoomsWrong : ChangeSpec := { name := "fnRooms", fn := fun _ => fun
  | [d] => { results := [.lit (.bool false)], args := [d] }
  | _ => none }
def FnRoomsWrongFalsely : Prop := fnRoomsRow.holds Try.pinned (OpenSpec.ofChange fnRoomsWrong)

/-- 'laws.FnLeastRooms': WHATEVER THE INPUT: true; the input reads as it did. -/
def fnLeastRoomsSpec : ChangeSpec := { name := "fnLeastRooms", fn := fun _ => fun
  | [d] => { results := [.lit (.bool true)], args := [d] }
  | _ => none }
def fnLeastRoomsRow : OpenClaim := { program := "ytkbhbmoogkjafaa", sum := "e826ead0f7a71891a67917705d13fae24ff1dc28f0dc4cd4f73b09d1b3eb3872", func := "loop.example/g00941/laws.FnLeastRooms", spec := "fnLeastRooms", unfollowed := true, recurses := true, apart := false }
def FnLeastRoomsSaid : Prop := fnLeastRoomsRow.holds Try.pinned (OpenSpec.ofChange fnLeastRoomsSpec)

/-- ITS FALSE NEIGHBOUR: 'it returns false'. Refute it at one input. -/
def fnLeastRoomsWrong : ChangeSpec := { name := "fnLeastRooms", fn := fun _ => fun
  | [d] => { results := [.lit (.bool false)], args := [d] }
  | _ => none }
def FnLeastRoomsWrongFalsely : Prop := fnLeastRoomsRow.holds Try.pinned (OpenSpec.ofChange fnLeastRoomsWrong)

/-- 'laws.FnStates': WHATEVER THE INPUT: true; the input reads as it did. -/
def fnStatesSpec : ChangeSpec := { name := "fnStates", fn := fun _ => fun
  | [d] => { results := [.lit (.bool true)], args := [d] }
  | _ => none }
def fnStatesRow : OpenClaim := { program := "ytkbhbmoogkjafaa", sum := "e826ead0f7a71891a67917705d13fae24ff1dc28f0dc4cd4f73b09d1b3eb3872", func := "loop.example/g00941/laws.FnStates", spec := "fnStates", unfollowed := true, recurses := true, apart := false }
def FnStatesSaid : Prop := fnStatesRow.holds Try.pinned (OpenSpec.ofChange fnStatesSpec)

/-- ITS FALSE NEIGHBOUR: 'it returns false'. Refute it at one input. -/
def fnStatesWrong : ChangeSpec := { name := "fnStates", fn := fun _ => fun
  | [d] => { results := [.lit (.bool false)], args := [d] }
  | _ => none }
def FnStatesWrongFalsely : Prop := fnStatesRow.holds Try.pinned (OpenSpec.ofChange fnStatesWrong)

/- THE SECOND FORM. 'bulk': how many values and letters a reading holds, each counted each time it is reached (what is shared counts as often as it is met; a slice's spare places count too). A statement '..UptoSaid' is the law's where the arguments, and the package variables that the reading takes, are together of bulk at most 1048576: NARROWER than '..Said'. Prove '..Said' where nothing that the law and all that it calls make is longer than what came in: it says more and counts as full. Else prove '..UptoSaid'. A law counts once. -/
mutual
def uptoBulk {H : Type} : DataW H → Nat
  | .lit (.string bytes) => bytes.length + 1
  | .lit _ => 1
  | .nil => 1
  | .ptr d => uptoBulk d + 1
  | .slice elems spare => uptoBulkAll elems + uptoBulkAll spare + 1
  | .agg parts => uptoBulkAll parts + 1
  | .iface _ d => uptoBulk d + 1
  | .map entries => uptoBulkEntries entries + 1
  | .held _ => 1
def uptoBulkAll {H : Type} : List (DataW H) → Nat
  | [] => 0
  | d :: r => uptoBulk d + uptoBulkAll r
def uptoBulkEntries {H : Type} : List (Lit × DataW H) → Nat
  | [] => 0
  | x :: r => uptoBulkEntry x + uptoBulkEntries r
def uptoBulkEntry {H : Type} : Lit × DataW H → Nat
  | (.string bytes, d) => bytes.length + uptoBulk d + 1
  | (_, d) => uptoBulk d + 1
 end
def uptoSmall : (H : Type) → List (DataW H) → Bool := fun _ ds => decide (uptoBulkAll ds ≤ 1048576)
def OpenSpec.upto (s : _root_.Go.ChangeSpec) : _root_.Go.OpenSpec := { _root_.Go.OpenSpec.ofChange s with cond := some uptoSmall }

/-- 'laws.FnFirings', WHERE WHAT IT READS IS OF BULK AT MOST 1048576: true; the input reads as it did. -/
def fnFiringsUptoRow : OpenClaim := { program := "ytkbhbmoogkjafaa", sum := "e826ead0f7a71891a67917705d13fae24ff1dc28f0dc4cd4f73b09d1b3eb3872", func := "loop.example/g00941/laws.FnFirings", spec := "fnFirings", unfollowed := true, recurses := true, apart := false, narrowed := true }
def FnFiringsUptoSaid : Prop := fnFiringsUptoRow.holds Try.pinned (OpenSpec.upto fnFiringsSpec)

/-- 'laws.FnFiring', WHERE WHAT IT READS IS OF BULK AT MOST 1048576: true; the input reads as it did. -/
def fnFiringUptoRow : OpenClaim := { program := "ytkbhbmoogkjafaa", sum := "e826ead0f7a71891a67917705d13fae24ff1dc28f0dc4cd4f73b09d1b3eb3872", func := "loop.example/g00941/laws.FnFiring", spec := "fnFiring", unfollowed := true, recurses := true, apart := false, narrowed := true }
def FnFiringUptoSaid : Prop := fnFiringUptoRow.holds Try.pinned (OpenSpec.upto fnFiringSpec)

/-- 'laws.FnTokenBounds', WHERE WHAT IT READS IS OF BULK AT MOST 1048576: true; the input reads as it did. -/
def fnTokenBoundsUptoRow : OpenClaim := { program := "ytkbhbmoogkjafaa", sum := "e826ead0f7a71891a67917705d13fae24ff1dc28f0dc4cd4f73b09d1b3eb3872", func := "loop.example/g00941/laws.FnTokenBounds", spec := "fnTokenBounds", unfollowed := true, recurses := true, apart := false, narrowed := true }
def FnTokenBoundsUptoSaid : Prop := fnTokenBoundsUptoRow.holds Try.pinned (OpenSpec.upto fnTokenBoundsSpec)

/-- 'laws.FnCircuits', WHERE WHAT IT READS IS OF BULK AT MOST 1048576: true; the input reads as it did. -/
def fnCircuitsUptoRow : OpenClaim := { program := "ytkbhbmoogkjafaa", sum := "e826ead0f7a71891a67917705d13fae24ff1dc28f0dc4cd4f73b09d1b3eb3872", func := "loop.example/g00941/laws.FnCircuits", spec := "fnCircuits", unfollowed := true, recurses := true, apart := false, narrowed := true }
def FnCircuitsUptoSaid : Prop := fnCircuitsUptoRow.holds Try.pinned (OpenSpec.upto fnCircuitsSpec)

/-- 'laws.FnExactLeastRoom', WHERE WHAT IT READS IS OF BULK AT MOST 1048576: true; the input reads as it did. -/
def fnExactLeastRoomUptoRow : OpenClaim := { program := "ytkbhbmoogkjafaa", sum := "e826ead0f7a71891a67917705d13fae24ff1dc28f0dc4cd4f73b09d1b3eb3872", func := "loop.example/g00941/laws.FnExactLeastRoom", spec := "fnExactLeastRoom", unfollowed := true, recurses := true, apart := false, narrowed := true }
def FnExactLeastRoomUptoSaid : Prop := fnExactLeastRoomUptoRow.holds Try.pinned (OpenSpec.upto fnExactLeastRoomSpec)

/-- 'laws.FnExactRoomTimes', WHERE WHAT IT READS IS OF BULK AT MOST 1048576: true; the input reads as it did. -/
def fnExactRoomTimesUptoRow : OpenClaim := { program := "ytkbhbmoogkjafaa", sum := "e826ead0f7a71891a67917705d13fae24ff1dc28f0dc4cd4f73b09d1b3eb3872", func := "loop.example/g00941/laws.FnExactRoomTimes", spec := "fnExactRoomTimes", unfollowed := true, recurses := true, apart := false, narrowed := true }
def FnExactRoomTimesUptoSaid : Prop := fnExactRoomTimesUptoRow.holds Try.pinned (OpenSpec.upto fnExactRoomTimesSpec)

/-- 'laws.FnExactLeastRooms', WHERE WHAT IT READS IS OF BULK AT MOST 1048576: true; the input reads as it did. -/
def fnExactLeastRoomsUptoRow : OpenClaim := { program := "ytkbhbmoogkjafaa", sum := "e826ead0f7a71891a67917705d13fae24ff1dc28f0dc4cd4f73b09d1b3eb3872", func := "loop.example/g00941/laws.FnExactLeastRooms", spec := "fnExactLeastRooms", unfollowed := true, recurses := true, apart := false, narrowed := true }
def FnExactLeastRoomsUptoSaid : Prop := fnExactLeastRoomsUptoRow.holds Try.pinned (OpenSpec.upto fnExactLeastRoomsSpec)

/-- 'laws.FnRooms', WHERE WHAT IT READS IS OF BULK AT MOST 1048576: true; the input reads as it did. -/
def fnRoomsUptoRow : OpenClaim := { program := "ytkbhbmoogkjafaa", sum := "e826ead0f7a71891a67917705d13fae24ff1dc28f0dc4cd4f73b09d1b3eb3872", func := "loop.example/g00941/laws.FnRooms", spec := "fnRooms", unfollowed := true, recurses := true, apart := false, narrowed := true }
def FnRoomsUptoSaid : Prop := fnRoomsUptoRow.holds Try.pinned (OpenSpec.upto fnRoomsSpec)

/-- 'laws.FnLeastRooms', WHERE WHAT IT READS IS OF BULK AT MOST 1048576: true; the input reads as it did. -/
def fnLeastRoomsUptoRow : OpenClaim := { program := "ytkbhbmoogkjafaa", sum := "e826ead0f7a71891a67917705d13fae24ff1dc28f0dc4cd4f73b09d1b3eb3872", func := "loop.example/g00941/laws.FnLeastRooms", spec := "fnLeastRooms", unfollowed := true, recurses := true, apart := false, narrowed := true }
def FnLeastRoomsUptoSaid : Prop := fnLeastRoomsUptoRow.holds Try.pinned (OpenSpec.upto fnLeastRoomsSpec)

/-- 'laws.FnStates', WHERE WHAT IT READS IS OF BULK AT MOST 1048576: true; the input reads as it did. -/
def fnStatesUptoRow : OpenClaim := { program := "ytkbhbmoogkjafaa", sum := "e826ead0f7a71891a67917705d13fae24ff1dc28f0dc4cd4f73b09d1b3eb3872", func := "loop.example/g00941/laws.FnStates", spec := "fnStates", unfollowed := true, recurses := true, apart := false, narrowed := true }
def FnStatesUptoSaid : Prop := fnStatesUptoRow.holds Try.pinned (OpenSpec.upto fnStatesSpec)

end Rows
end Go.Proofs.Ytkbhbmoogkjafaa
