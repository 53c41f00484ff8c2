/-
  No cell of these rows narrows 'for every input' (looked for: loops, veiled, ifaces, maps, wideKeys, modest, calm, conditions, laid).
  DERIVED. THE GIVEN ROWS OF THIS SEAT. 12 by the template 'for every input the law returns true; each argument reads behind the call as it read before'; 0 by the template 'total and deterministic' (their statements: YtickecljchccoaaTotals.lean).
  GIVEN WITH THE SEED: the statements are not yours to turn. If you find one false, say at which input.
  Laid BY PROGRAM, IN A SANDBOX (cutbox-rows.mjs): the forced cells as the released guide's own fill.sh prints them over the translation 2f369097c54ec60f… (all of the seat's roots in one cut). By AI agents, Wed Nov 11 2026. No macro, syntax, notation, axiom, sorry.
-/
import Derived.Test.YtickecljchccoaaChecked
import GoSem.Claim
import GoSem.ClaimJoined
import GoSem.ClaimMapViews
import Derived.JoinedTies
import Derived.KernelRfl
namespace Go.Proofs.Ytickecljchccoaa
/- THE CELL 'sum', in the pinned program and in every row, IS THE sha256 OF THE DUMP (.gsa) THAT YtickecljchccoaaProg.lean LOADS. Nothing in Lean hashes anything: it is a label: what it is worth is what the hold of that sum in a sandbox is worth. -/
noncomputable def Try.pinned : Pinned := { name := "ytickecljchccoaa", sum := "2f369097c54ec60f9f5f4b61fa414888067e85e72df1aab919bf76e1a8909cf6", checked := Try.checked }
namespace Rows
def none {H : Type} : Left H := { results := [], args := [] }

/-- 'laws.FnExactSimulateGraph': WHATEVER THE INPUT: true; the input reads as it did. -/
def fnExactSimulateGraphSpec : ChangeSpec := { name := "fnExactSimulateGraph", fn := fun _ => fun
  | [d1, d2] => { results := [.lit (.bool true)], args := [d1, d2] }
  | _ => none }
def fnExactSimulateGraphRow : OpenClaim := { program := "ytickecljchccoaa", sum := "2f369097c54ec60f9f5f4b61fa414888067e85e72df1aab919bf76e1a8909cf6", func := "loop.example/g00941/laws.FnExactSimulateGraph", spec := "fnExactSimulateGraph", unfollowed := true, recurses := true, apart := false }
def FnExactSimulateGraphSaid : Prop := fnExactSimulateGraphRow.holds Try.pinned (OpenSpec.ofChange fnExactSimulateGraphSpec)

/-- ITS FALSE NEIGHBOUR: 'it returns false'. Refute it at one input. -/
def fnExactSimulateGraphWrong : ChangeSpec := { name := "fnExactSimulateGraph", fn := fun _ => fun
  | [d1, d2] => { results := [.lit (.bool false)], args := [d1, d2] }
  | _ => none }
def FnExactSimulateGraphWrongFalsely : Prop := fnExactSimulateGraphRow.holds Try.pinned (OpenSpec.ofChange fnExactSimulateGraphWrong)

/-- 'laws.FnExactIsFiringTable': WHATEVER THE INPUT: true; the input reads as it did. -/
def fnExactIsFiringTableSpec : ChangeSpec := { name := "fnExactIsFiringTable", fn := fun _ => fun
  | [d1, d2] => { results := [.lit (.bool true)], args := [d1, d2] }
  | _ => none }
def fnExactIsFiringTableRow : OpenClaim := { program := "ytickecljchccoaa", sum := "2f369097c54ec60f9f5f4b61fa414888067e85e72df1aab919bf76e1a8909cf6", func := "loop.example/g00941/laws.FnExactIsFiringTable", spec := "fnExactIsFiringTable", unfollowed := true, recurses := true, apart := false }
def FnExactIsFiringTableSaid : Prop := fnExactIsFiringTableRow.holds Try.pinned (OpenSpec.ofChange fnExactIsFiringTableSpec)

/-- ITS FALSE NEIGHBOUR: 'it returns false'. Refute it at one input. -/
def fnExactIsFiringTableWrong : ChangeSpec := { name := "fnExactIsFiringTable", fn := fun _ => fun
  | [d1, d2] => { results := [.lit (.bool false)], args := [d1, d2] }
  | _ => none }
def FnExactIsFiringTableWrongFalsely : Prop := fnExactIsFiringTableRow.holds Try.pinned (OpenSpec.ofChange fnExactIsFiringTableWrong)

/-- 'laws.FnExactJoinGraphs': WHATEVER THE INPUT: true; the input reads as it did. -/
def fnExactJoinGraphsSpec : ChangeSpec := { name := "fnExactJoinGraphs", fn := fun _ => fun
  | [d1, d2] => { results := [.lit (.bool true)], args := [d1, d2] }
  | _ => none }
def fnExactJoinGraphsRow : OpenClaim := { program := "ytickecljchccoaa", sum := "2f369097c54ec60f9f5f4b61fa414888067e85e72df1aab919bf76e1a8909cf6", func := "loop.example/g00941/laws.FnExactJoinGraphs", spec := "fnExactJoinGraphs", unfollowed := true, recurses := true, apart := false }
def FnExactJoinGraphsSaid : Prop := fnExactJoinGraphsRow.holds Try.pinned (OpenSpec.ofChange fnExactJoinGraphsSpec)

/-- ITS FALSE NEIGHBOUR: 'it returns false'. Refute it at one input. -/
def fnExactJoinGraphsWrong : ChangeSpec := { name := "fnExactJoinGraphs", fn := fun _ => fun
  | [d1, d2] => { results := [.lit (.bool false)], args := [d1, d2] }
  | _ => none }
def FnExactJoinGraphsWrongFalsely : Prop := fnExactJoinGraphsRow.holds Try.pinned (OpenSpec.ofChange fnExactJoinGraphsWrong)

/-- 'laws.FnExactTokenBound': WHATEVER THE INPUT: true; the input reads as it did. -/
def fnExactTokenBoundSpec : ChangeSpec := { name := "fnExactTokenBound", fn := fun _ => fun
  | [d1, d2] => { results := [.lit (.bool true)], args := [d1, d2] }
  | _ => none }
def fnExactTokenBoundRow : OpenClaim := { program := "ytickecljchccoaa", sum := "2f369097c54ec60f9f5f4b61fa414888067e85e72df1aab919bf76e1a8909cf6", func := "loop.example/g00941/laws.FnExactTokenBound", spec := "fnExactTokenBound", unfollowed := true, recurses := true, apart := false }
def FnExactTokenBoundSaid : Prop := fnExactTokenBoundRow.holds Try.pinned (OpenSpec.ofChange fnExactTokenBoundSpec)

/-- ITS FALSE NEIGHBOUR: 'it returns false'. Refute it at one input. -/
def fnExactTokenBoundWrong : ChangeSpec := { name := "fnExactTokenBound", fn := fun _ => fun
  | [d1, d2] => { results := [.lit (.bool false)], args := [d1, d2] }
  | _ => none }
def FnExactTokenBoundWrongFalsely : Prop := fnExactTokenBoundRow.holds Try.pinned (OpenSpec.ofChange fnExactTokenBoundWrong)

/-- 'laws.FnExactTimePotential': WHATEVER THE INPUT: true; the input reads as it did. -/
def fnExactTimePotentialSpec : ChangeSpec := { name := "fnExactTimePotential", fn := fun _ => fun
  | [d1, d2] => { results := [.lit (.bool true)], args := [d1, d2] }
  | _ => none }
def fnExactTimePotentialRow : OpenClaim := { program := "ytickecljchccoaa", sum := "2f369097c54ec60f9f5f4b61fa414888067e85e72df1aab919bf76e1a8909cf6", func := "loop.example/g00941/laws.FnExactTimePotential", spec := "fnExactTimePotential", unfollowed := true, recurses := true, apart := false }
def FnExactTimePotentialSaid : Prop := fnExactTimePotentialRow.holds Try.pinned (OpenSpec.ofChange fnExactTimePotentialSpec)

/-- ITS FALSE NEIGHBOUR: 'it returns false'. Refute it at one input. -/
def fnExactTimePotentialWrong : ChangeSpec := { name := "fnExactTimePotential", fn := fun _ => fun
  | [d1, d2] => { results := [.lit (.bool false)], args := [d1, d2] }
  | _ => none }
def FnExactTimePotentialWrongFalsely : Prop := fnExactTimePotentialRow.holds Try.pinned (OpenSpec.ofChange fnExactTimePotentialWrong)

/-- 'laws.FnExactClosedMatrix': WHATEVER THE INPUT: true; the input reads as it did. -/
def fnExactClosedMatrixSpec : ChangeSpec := { name := "fnExactClosedMatrix", fn := fun _ => fun
  | [d1, d2] => { results := [.lit (.bool true)], args := [d1, d2] }
  | _ => none }
def fnExactClosedMatrixRow : OpenClaim := { program := "ytickecljchccoaa", sum := "2f369097c54ec60f9f5f4b61fa414888067e85e72df1aab919bf76e1a8909cf6", func := "loop.example/g00941/laws.FnExactClosedMatrix", spec := "fnExactClosedMatrix", unfollowed := true, recurses := true, apart := false }
def FnExactClosedMatrixSaid : Prop := fnExactClosedMatrixRow.holds Try.pinned (OpenSpec.ofChange fnExactClosedMatrixSpec)

/-- ITS FALSE NEIGHBOUR: 'it returns false'. Refute it at one input. -/
def fnExactClosedMatrixWrong : ChangeSpec := { name := "fnExactClosedMatrix", fn := fun _ => fun
  | [d1, d2] => { results := [.lit (.bool false)], args := [d1, d2] }
  | _ => none }
def FnExactClosedMatrixWrongFalsely : Prop := fnExactClosedMatrixRow.holds Try.pinned (OpenSpec.ofChange fnExactClosedMatrixWrong)

/-- 'laws.FnExactCycleTime': WHATEVER THE INPUT: true; the input reads as it did. -/
def fnExactCycleTimeSpec : ChangeSpec := { name := "fnExactCycleTime", fn := fun _ => fun
  | [d] => { results := [.lit (.bool true)], args := [d] }
  | _ => none }
def fnExactCycleTimeRow : OpenClaim := { program := "ytickecljchccoaa", sum := "2f369097c54ec60f9f5f4b61fa414888067e85e72df1aab919bf76e1a8909cf6", func := "loop.example/g00941/laws.FnExactCycleTime", spec := "fnExactCycleTime", unfollowed := true, recurses := true, apart := false }
def FnExactCycleTimeSaid : Prop := fnExactCycleTimeRow.holds Try.pinned (OpenSpec.ofChange fnExactCycleTimeSpec)

/-- ITS FALSE NEIGHBOUR: 'it returns false'. Refute it at one input. -/
def fnExactCycleTimeWrong : ChangeSpec := { name := "fnExactCycleTime", fn := fun _ => fun
  | [d] => { results := [.lit (.bool false)], args := [d] }
  | _ => none }
def FnExactCycleTimeWrongFalsely : Prop := fnExactCycleTimeRow.holds Try.pinned (OpenSpec.ofChange fnExactCycleTimeWrong)

/-- 'laws.FnExactRoomsSuffice': WHATEVER THE INPUT: true; the input reads as it did. -/
def fnExactRoomsSufficeSpec : ChangeSpec := { name := "fnExactRoomsSuffice", fn := fun _ => fun
  | [d1, d2, d3, d4] => { results := [.lit (.bool true)], args := [d1, d2, d3, d4] }
  | _ => none }
def fnExactRoomsSufficeRow : OpenClaim := { program := "ytickecljchccoaa", sum := "2f369097c54ec60f9f5f4b61fa414888067e85e72df1aab919bf76e1a8909cf6", func := "loop.example/g00941/laws.FnExactRoomsSuffice", spec := "fnExactRoomsSuffice", unfollowed := true, recurses := true, apart := false }
def FnExactRoomsSufficeSaid : Prop := fnExactRoomsSufficeRow.holds Try.pinned (OpenSpec.ofChange fnExactRoomsSufficeSpec)

/-- ITS FALSE NEIGHBOUR: 'it returns false'. Refute it at one input. -/
def fnExactRoomsSufficeWrong : ChangeSpec := { name := "fnExactRoomsSuffice", fn := fun _ => fun
  | [d1, d2, d3, d4] => { results := [.lit (.bool false)], args := [d1, d2, d3, d4] }
  | _ => none }
def FnExactRoomsSufficeWrongFalsely : Prop := fnExactRoomsSufficeRow.holds Try.pinned (OpenSpec.ofChange fnExactRoomsSufficeWrong)

/-- 'laws.FnExactEventTime': WHATEVER THE INPUT: true; the input reads as it did. -/
def fnExactEventTimeSpec : ChangeSpec := { name := "fnExactEventTime", fn := fun _ => fun
  | [d1, d2] => { results := [.lit (.bool true)], args := [d1, d2] }
  | _ => none }
def fnExactEventTimeRow : OpenClaim := { program := "ytickecljchccoaa", sum := "2f369097c54ec60f9f5f4b61fa414888067e85e72df1aab919bf76e1a8909cf6", func := "loop.example/g00941/laws.FnExactEventTime", spec := "fnExactEventTime", unfollowed := true, recurses := true, apart := false }
def FnExactEventTimeSaid : Prop := fnExactEventTimeRow.holds Try.pinned (OpenSpec.ofChange fnExactEventTimeSpec)

/-- ITS FALSE NEIGHBOUR: 'it returns false'. Refute it at one input. -/
def fnExactEventTimeWrong : ChangeSpec := { name := "fnExactEventTime", fn := fun _ => fun
  | [d1, d2] => { results := [.lit (.bool false)], args := [d1, d2] }
  | _ => none }
def FnExactEventTimeWrongFalsely : Prop := fnExactEventTimeRow.holds Try.pinned (OpenSpec.ofChange fnExactEventTimeWrong)

/-- 'laws.FnExactStateMatrix': WHATEVER THE INPUT: true; the input reads as it did. -/
def fnExactStateMatrixSpec : ChangeSpec := { name := "fnExactStateMatrix", fn := fun _ => fun
  | [d] => { results := [.lit (.bool true)], args := [d] }
  | _ => none }
def fnExactStateMatrixRow : OpenClaim := { program := "ytickecljchccoaa", sum := "2f369097c54ec60f9f5f4b61fa414888067e85e72df1aab919bf76e1a8909cf6", func := "loop.example/g00941/laws.FnExactStateMatrix", spec := "fnExactStateMatrix", unfollowed := true, recurses := true, apart := false }
def FnExactStateMatrixSaid : Prop := fnExactStateMatrixRow.holds Try.pinned (OpenSpec.ofChange fnExactStateMatrixSpec)

/-- ITS FALSE NEIGHBOUR: 'it returns false'. Refute it at one input. -/
def fnExactStateMatrixWrong : ChangeSpec := { name := "fnExactStateMatrix", fn := fun _ => fun
  | [d] => { results := [.lit (.bool false)], args := [d] }
  | _ => none }
def FnExactStateMatrixWrongFalsely : Prop := fnExactStateMatrixRow.holds Try.pinned (OpenSpec.ofChange fnExactStateMatrixWrong)

/-- 'laws.FnExactLeastRoom': WHATEVER THE INPUT: true; the input reads as it did. -/
def fnExactLeastRoomSpec : ChangeSpec := { name := "fnExactLeastRoom", fn := fun _ => fun
  | [d1, d2, d3] => { results := [.lit (.bool true)], args := [d1, d2, d3] }
  | _ => none }
def fnExactLeastRoomRow : OpenClaim := { program := "ytickecljchccoaa", sum := "2f369097c54ec60f9f5f4b61fa414888067e85e72df1aab919bf76e1a8909cf6", func := "loop.example/g00941/laws.FnExactLeastRoom", spec := "fnExactLeastRoom", unfollowed := true, recurses := true, apart := false }
def FnExactLeastRoomSaid : Prop := fnExactLeastRoomRow.holds Try.pinned (OpenSpec.ofChange fnExactLeastRoomSpec)

/-- ITS FALSE NEIGHBOUR: 'it returns false'. Refute it at one input. -/
def fnExactLeastRoomWrong : ChangeSpec := { name := "fnExactLeastRoom", fn := fun _ => fun
  | [d1, d2, d3] => { results := [.lit (.bool false)], args := [d1, d2, d3] }
  | _ => none }
def FnExactLeastRoomWrongFalsely : Prop := fnExactLeastRoomRow.holds Try.pinned (OpenSpec.ofChange fnExactLeastRoomWrong)

/-- 'laws.FnExactRoomTimes': WHATEVER THE INPUT: true; the input reads as it did. -/
def fnExactRoomTimesSpec : ChangeSpec := { name := "fnExactRoomTimes", fn := fun _ => fun
  | [d1, d2] => { results := [.lit (.bool true)], args := [d1, d2] }
  | _ => none }
def fnExactRoomTimesRow : OpenClaim := { program := "ytickecljchccoaa", sum := "2f369097c54ec60f9f5f4b61fa414888067e85e72df1aab919bf76e1a8909cf6", func := "loop.example/g00941/laws.FnExactRoomTimes", spec := "fnExactRoomTimes", unfollowed := true, recurses := true, apart := false }
def FnExactRoomTimesSaid : Prop := fnExactRoomTimesRow.holds Try.pinned (OpenSpec.ofChange fnExactRoomTimesSpec)

/-- ITS FALSE NEIGHBOUR: 'it returns false'. Refute it at one input. -/
def fnExactRoomTimesWrong : ChangeSpec := { name := "fnExactRoomTimes", fn := fun _ => fun
  | [d1, d2] => { results := [.lit (.bool false)], args := [d1, d2] }
  | _ => none }
def FnExactRoomTimesWrongFalsely : Prop := fnExactRoomTimesRow.holds Try.pinned (OpenSpec.ofChange fnExactRoomTimesWrong)

/- THE SECOND FORM. 'bulk': how many values and letters a reading holds, each counted each time it is reached (what is shared counts as often as it is met; a slice's spare places count too). A statement '..UptoSaid' is the law's where the arguments, and the package variables that the reading takes, are together of bulk at most 1048576: NARROWER than '..Said'. Prove '..Said' where nothing that the law and all that it calls make is longer than what came in: it says more and counts as full. Else prove '..UptoSaid'. A law counts once. -/
mutual
def uptoBulk {H : Type} : DataW H → Nat
  | .lit (.string bytes) => bytes.length + 1
  | .lit _ => 1
  | .nil => 1
  | .ptr d => uptoBulk d + 1
  | .slice elems spare => uptoBulkAll elems + uptoBulkAll spare + 1
  | .agg parts => uptoBulkAll parts + 1
  | .iface _ d => uptoBulk d + 1
  | .map entries => uptoBulkEntries entries + 1
  | .held _ => 1
def uptoBulkAll {H : Type} : List (DataW H) → Nat
  | [] => 0
  | d :: r => uptoBulk d + uptoBulkAll r
def uptoBulkEntries {H : Type} : List (Lit × DataW H) → Nat
  | [] => 0
  | x :: r => uptoBulkEntry x + uptoBulkEntries r
def uptoBulkEntry {H : Type} : Lit × DataW H → Nat
  | (.string bytes, d) => bytes.length + uptoBulk d + 1
  | (_, d) => uptoBulk d + 1
 end
def uptoSmall : (H : Type) → List (DataW H) → Bool := fun _ ds => decide (uptoBulkAll ds ≤ 1048576)
def OpenSpec.upto (s : _root_.Go.ChangeSpec) : _root_.Go.OpenSpec := { _root_.Go.OpenSpec.ofChange s with cond := some uptoSmall }

/-- 'laws.FnExactSimulateGraph', WHERE WHAT IT READS IS OF BULK AT MOST 1048576: true; the input reads as it did. -/
def fnExactSimulateGraphUptoRow : OpenClaim := { program := "ytickecljchccoaa", sum := "2f369097c54ec60f9f5f4b61fa414888067e85e72df1aab919bf76e1a8909cf6", func := "loop.example/g00941/laws.FnExactSimulateGraph", spec := "fnExactSimulateGraph", unfollowed := true, recurses := true, apart := false, narrowed := true }
def FnExactSimulateGraphUptoSaid : Prop := fnExactSimulateGraphUptoRow.holds Try.pinned (OpenSpec.upto fnExactSimulateGraphSpec)

/-- 'laws.FnExactIsFiringTable', WHERE WHAT IT READS IS OF BULK AT MOST 1048576: true; the input reads as it did. -/
def fnExactIsFiringTableUptoRow : OpenClaim := { program := "ytickecljchccoaa", sum := "2f369097c54ec60f9f5f4b61fa414888067e85e72df1aab919bf76e1a8909cf6", func := "loop.example/g00941/laws.FnExactIsFiringTable", spec := "fnExactIsFiringTable", unfollowed := true, recurses := true, apart := false, narrowed := true }
def FnExactIsFiringTableUptoSaid : Prop := fnExactIsFiringTableUptoRow.holds Try.pinned (OpenSpec.upto fnExactIsFiringTableSpec)

/-- 'laws.FnExactJoinGraphs', WHERE WHAT IT READS IS OF BULK AT MOST 1048576: true; the input reads as it did. -/
def fnExactJoinGraphsUptoRow : OpenClaim := { program := "ytickecljchccoaa", sum := "2f369097c54ec60f9f5f4b61fa414888067e85e72df1aab919bf76e1a8909cf6", func := "loop.example/g00941/laws.FnExactJoinGraphs", spec := "fnExactJoinGraphs", unfollowed := true, recurses := true, apart := false, narrowed := true }
def FnExactJoinGraphsUptoSaid : Prop := fnExactJoinGraphsUptoRow.holds Try.pinned (OpenSpec.upto fnExactJoinGraphsSpec)

/-- 'laws.FnExactTokenBound', WHERE WHAT IT READS IS OF BULK AT MOST 1048576: true; the input reads as it did. -/
def fnExactTokenBoundUptoRow : OpenClaim := { program := "ytickecljchccoaa", sum := "2f369097c54ec60f9f5f4b61fa414888067e85e72df1aab919bf76e1a8909cf6", func := "loop.example/g00941/laws.FnExactTokenBound", spec := "fnExactTokenBound", unfollowed := true, recurses := true, apart := false, narrowed := true }
def FnExactTokenBoundUptoSaid : Prop := fnExactTokenBoundUptoRow.holds Try.pinned (OpenSpec.upto fnExactTokenBoundSpec)

/-- 'laws.FnExactTimePotential', WHERE WHAT IT READS IS OF BULK AT MOST 1048576: true; the input reads as it did. -/
def fnExactTimePotentialUptoRow : OpenClaim := { program := "ytickecljchccoaa", sum := "2f369097c54ec60f9f5f4b61fa414888067e85e72df1aab919bf76e1a8909cf6", func := "loop.example/g00941/laws.FnExactTimePotential", spec := "fnExactTimePotential", unfollowed := true, recurses := true, apart := false, narrowed := true }
def FnExactTimePotentialUptoSaid : Prop := fnExactTimePotentialUptoRow.holds Try.pinned (OpenSpec.upto fnExactTimePotentialSpec)

/-- 'laws.FnExactClosedMatrix', WHERE WHAT IT READS IS OF BULK AT MOST 1048576: true; the input reads as it did. -/
def fnExactClosedMatrixUptoRow : OpenClaim := { program := "ytickecljchccoaa", sum := "2f369097c54ec60f9f5f4b61fa414888067e85e72df1aab919bf76e1a8909cf6", func := "loop.example/g00941/laws.FnExactClosedMatrix", spec := "fnExactClosedMatrix", unfollowed := true, recurses := true, apart := false, narrowed := true }
def FnExactClosedMatrixUptoSaid : Prop := fnExactClosedMatrixUptoRow.holds Try.pinned (OpenSpec.upto fnExactClosedMatrixSpec)

/-- 'laws.FnExactCycleTime', WHERE WHAT IT READS IS OF BULK AT MOST 1048576: true; the input reads as it did. -/
def fnExactCycleTimeUptoRow : OpenClaim := { program := "ytickecljchccoaa", sum := "2f369097c54ec60f9f5f4b61fa414888067e85e72df1aab919bf76e1a8909cf6", func := "loop.example/g00941/laws.FnExactCycleTime", spec := "fnExactCycleTime", unfollowed := true, recurses := true, apart := false, narrowed := true }
def FnExactCycleTimeUptoSaid : Prop := fnExactCycleTimeUptoRow.holds Try.pinned (OpenSpec.upto fnExactCycleTimeSpec)

/-- 'laws.FnExactRoomsSuffice', WHERE WHAT IT READS IS OF BULK AT MOST 1048576: true; the input reads as it did. -/
def fnExactRoomsSufficeUptoRow : OpenClaim := { program := "ytickecljchccoaa", sum := "2f369097c54ec60f9f5f4b61fa414888067e85e72df1aab919bf76e1a8909cf6", func := "loop.example/g00941/laws.FnExactRoomsSuffice", spec := "fnExactRoomsSuffice", unfollowed := true, recurses := true, apart := false, narrowed := true }
def FnExactRoomsSufficeUptoSaid : Prop := fnExactRoomsSufficeUptoRow.holds Try.pinned (OpenSpec.upto fnExactRoomsSufficeSpec)

/-- 'laws.FnExactEventTime', WHERE WHAT IT READS IS OF BULK AT MOST 1048576: true; the input reads as it did. -/
def fnExactEventTimeUptoRow : OpenClaim := { program := "ytickecljchccoaa", sum := "2f369097c54ec60f9f5f4b61fa414888067e85e72df1aab919bf76e1a8909cf6", func := "loop.example/g00941/laws.FnExactEventTime", spec := "fnExactEventTime", unfollowed := true, recurses := true, apart := false, narrowed := true }
def FnExactEventTimeUptoSaid : Prop := fnExactEventTimeUptoRow.holds Try.pinned (OpenSpec.upto fnExactEventTimeSpec)

/-- 'laws.FnExactStateMatrix', WHERE WHAT IT READS IS OF BULK AT MOST 1048576: true; the input reads as it did. -/
def fnExactStateMatrixUptoRow : OpenClaim := { program := "ytickecljchccoaa", sum := "2f369097c54ec60f9f5f4b61fa414888067e85e72df1aab919bf76e1a8909cf6", func := "loop.example/g00941/laws.FnExactStateMatrix", spec := "fnExactStateMatrix", unfollowed := true, recurses := true, apart := false, narrowed := true }
def FnExactStateMatrixUptoSaid : Prop := fnExactStateMatrixUptoRow.holds Try.pinned (OpenSpec.upto fnExactStateMatrixSpec)

/-- 'laws.FnExactLeastRoom', WHERE WHAT IT READS IS OF BULK AT MOST 1048576: true; the input reads as it did. -/
def fnExactLeastRoomUptoRow : OpenClaim := { program := "ytickecljchccoaa", sum := "2f369097c54ec60f9f5f4b61fa414888067e85e72df1aab919bf76e1a8909cf6", func := "loop.example/g00941/laws.FnExactLeastRoom", spec := "fnExactLeastRoom", unfollowed := true, recurses := true, apart := false, narrowed := true }
def FnExactLeastRoomUptoSaid : Prop := fnExactLeastRoomUptoRow.holds Try.pinned (OpenSpec.upto fnExactLeastRoomSpec)

/-- 'laws.FnExactRoomTimes', WHERE WHAT IT READS IS OF BULK AT MOST 1048576: true; the input reads as it did. -/
def fnExactRoomTimesUptoRow : OpenClaim := { program := "ytickecljchccoaa", sum := "2f369097c54ec60f9f5f4b61fa414888067e85e72df1aab919bf76e1a8909cf6", func := "loop.example/g00941/laws.FnExactRoomTimes", spec := "fnExactRoomTimes", unfollowed := true, recurses := true, apart := false, narrowed := true }
def FnExactRoomTimesUptoSaid : Prop := fnExactRoomTimesUptoRow.holds Try.pinned (OpenSpec.upto fnExactRoomTimesSpec)

end Rows
end Go.Proofs.Ytickecljchccoaa
