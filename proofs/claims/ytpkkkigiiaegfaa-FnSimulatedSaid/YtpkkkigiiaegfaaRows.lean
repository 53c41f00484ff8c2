/-
  No cell of these rows narrows 'for every input' (looked for: loops, veiled, ifaces, maps, wideKeys, modest, calm, conditions, laid).
  DERIVED. THE GIVEN ROWS OF THIS SEAT. 12 by the template 'for every input the law returns true; each argument reads behind the call as it read before'; 0 by the template 'total and deterministic' (their statements: YtpkkkigiiaegfaaTotals.lean).
  GIVEN WITH THE SEED: the statements are not yours to turn. If you find one false, say at which input.
  Laid BY PROGRAM, IN A SANDBOX (cutbox-rows.mjs): the forced cells as the released guide's own fill.sh prints them over the translation de9e2572c6555bba… (all of the seat's roots in one cut). By AI agents, Wed Nov 11 2026. No macro, syntax, notation, axiom, sorry.
-/
import Derived.Test.YtpkkkigiiaegfaaChecked
import GoSem.Claim
import GoSem.ClaimJoined
import GoSem.ClaimMapViews
import Derived.JoinedTies
import Derived.KernelRfl
namespace Go.Proofs.Ytpkkkigiiaegfaa
/- THE CELL 'sum', in the pinned program and in every row, IS THE sha256 OF THE DUMP (.gsa) THAT YtpkkkigiiaegfaaProg.lean LOADS. Nothing in Lean hashes anything: it is a label: what it is worth is what the hold of that sum in a sandbox is worth. -/
noncomputable def Try.pinned : Pinned := { name := "ytpkkkigiiaegfaa", sum := "de9e2572c6555bba9a88574ee12104c19a024d70de9e3627c05c7a58d90494bf", checked := Try.checked }
namespace Rows
def none {H : Type} : Left H := { results := [], args := [] }

/-- 'laws.FnExactCycleTime': WHATEVER THE INPUT: true; the input reads as it did. -/
def fnExactCycleTimeSpec : ChangeSpec := { name := "fnExactCycleTime", fn := fun _ => fun
  | [d] => { results := [.lit (.bool true)], args := [d] }
  | _ => none }
def fnExactCycleTimeRow : OpenClaim := { program := "ytpkkkigiiaegfaa", sum := "de9e2572c6555bba9a88574ee12104c19a024d70de9e3627c05c7a58d90494bf", func := "loop.example/g00941/laws.FnExactCycleTime", spec := "fnExactCycleTime", unfollowed := true, recurses := true, apart := false }
def FnExactCycleTimeSaid : Prop := fnExactCycleTimeRow.holds Try.pinned (OpenSpec.ofChange fnExactCycleTimeSpec)

/-- ITS FALSE NEIGHBOUR: 'it returns false'. Refute it at one input. -/
def fnExactCycleTimeWrong : ChangeSpec := { name := "fnExactCycleTime", fn := fun _ => fun
  | [d] => { results := [.lit (.bool false)], args := [d] }
  | _ => none }
def FnExactCycleTimeWrongFalsely : Prop := fnExactCycleTimeRow.holds Try.pinned (OpenSpec.ofChange fnExactCycleTimeWrong)

/-- 'laws.FnExactRoomsSuffice': WHATEVER THE INPUT: true; the input reads as it did. -/
def fnExactRoomsSufficeSpec : ChangeSpec := { name := "fnExactRoomsSuffice", fn := fun _ => fun
  | [d1, d2, d3, d4] => { results := [.lit (.bool true)], args := [d1, d2, d3, d4] }
  | _ => none }
def fnExactRoomsSufficeRow : OpenClaim := { program := "ytpkkkigiiaegfaa", sum := "de9e2572c6555bba9a88574ee12104c19a024d70de9e3627c05c7a58d90494bf", func := "loop.example/g00941/laws.FnExactRoomsSuffice", spec := "fnExactRoomsSuffice", unfollowed := true, recurses := true, apart := false }
def FnExactRoomsSufficeSaid : Prop := fnExactRoomsSufficeRow.holds Try.pinned (OpenSpec.ofChange fnExactRoomsSufficeSpec)

/-- ITS FALSE NEIGHBOUR: 'it returns false'. Refute it at one input. -/
def fnExactRoomsSufficeWrong : ChangeSpec := { name := "fnExactRoomsSuffice", fn := fun _ => fun
  | [d1, d2, d3, d4] => { results := [.lit (.bool false)], args := [d1, d2, d3, d4] }
  | _ => none }
def FnExactRoomsSufficeWrongFalsely : Prop := fnExactRoomsSufficeRow.holds Try.pinned (OpenSpec.ofChange fnExactRoomsSufficeWrong)

/-- 'laws.FnExactEventTime': WHATEVER THE INPUT: true; the input reads as it did. -/
def fnExactEventTimeSpec : ChangeSpec := { name := "fnExactEventTime", fn := fun _ => fun
  | [d1, d2] => { results := [.lit (.bool true)], args := [d1, d2] }
  | _ => none }
def fnExactEventTimeRow : OpenClaim := { program := "ytpkkkigiiaegfaa", sum := "de9e2572c6555bba9a88574ee12104c19a024d70de9e3627c05c7a58d90494bf", func := "loop.example/g00941/laws.FnExactEventTime", spec := "fnExactEventTime", unfollowed := true, recurses := true, apart := false }
def FnExactEventTimeSaid : Prop := fnExactEventTimeRow.holds Try.pinned (OpenSpec.ofChange fnExactEventTimeSpec)

/-- ITS FALSE NEIGHBOUR: 'it returns false'. Refute it at one input. -/
def fnExactEventTimeWrong : ChangeSpec := { name := "fnExactEventTime", fn := fun _ => fun
  | [d1, d2] => { results := [.lit (.bool false)], args := [d1, d2] }
  | _ => none }
def FnExactEventTimeWrongFalsely : Prop := fnExactEventTimeRow.holds Try.pinned (OpenSpec.ofChange fnExactEventTimeWrong)

/-- 'laws.FnExactStateMatrix': WHATEVER THE INPUT: true; the input reads as it did. -/
def fnExactStateMatrixSpec : ChangeSpec := { name := "fnExactStateMatrix", fn := fun _ => fun
  | [d] => { results := [.lit (.bool true)], args := [d] }
  | _ => none }
def fnExactStateMatrixRow : OpenClaim := { program := "ytpkkkigiiaegfaa", sum := "de9e2572c6555bba9a88574ee12104c19a024d70de9e3627c05c7a58d90494bf", func := "loop.example/g00941/laws.FnExactStateMatrix", spec := "fnExactStateMatrix", unfollowed := true, recurses := true, apart := false }
def FnExactStateMatrixSaid : Prop := fnExactStateMatrixRow.holds Try.pinned (OpenSpec.ofChange fnExactStateMatrixSpec)

/-- ITS FALSE NEIGHBOUR: 'it returns false'. Refute it at one input. -/
def fnExactStateMatrixWrong : ChangeSpec := { name := "fnExactStateMatrix", fn := fun _ => fun
  | [d] => { results := [.lit (.bool false)], args := [d] }
  | _ => none }
def FnExactStateMatrixWrongFalsely : Prop := fnExactStateMatrixRow.holds Try.pinned (OpenSpec.ofChange fnExactStateMatrixWrong)

/-- 'laws.FnExactIsFiringTable': WHATEVER THE INPUT: true; the input reads as it did. -/
def fnExactIsFiringTableSpec : ChangeSpec := { name := "fnExactIsFiringTable", fn := fun _ => fun
  | [d1, d2] => { results := [.lit (.bool true)], args := [d1, d2] }
  | _ => none }
def fnExactIsFiringTableRow : OpenClaim := { program := "ytpkkkigiiaegfaa", sum := "de9e2572c6555bba9a88574ee12104c19a024d70de9e3627c05c7a58d90494bf", func := "loop.example/g00941/laws.FnExactIsFiringTable", spec := "fnExactIsFiringTable", unfollowed := true, recurses := true, apart := false }
def FnExactIsFiringTableSaid : Prop := fnExactIsFiringTableRow.holds Try.pinned (OpenSpec.ofChange fnExactIsFiringTableSpec)

/-- ITS FALSE NEIGHBOUR: 'it returns false'. Refute it at one input. -/
def fnExactIsFiringTableWrong : ChangeSpec := { name := "fnExactIsFiringTable", fn := fun _ => fun
  | [d1, d2] => { results := [.lit (.bool false)], args := [d1, d2] }
  | _ => none }
def FnExactIsFiringTableWrongFalsely : Prop := fnExactIsFiringTableRow.holds Try.pinned (OpenSpec.ofChange fnExactIsFiringTableWrong)

/-- 'laws.FnRuns': WHATEVER THE INPUT: true; the input reads as it did. -/
def fnRunsSpec : ChangeSpec := { name := "fnRuns", fn := fun _ => fun
  | [d] => { results := [.lit (.bool true)], args := [d] }
  | _ => none }
def fnRunsRow : OpenClaim := { program := "ytpkkkigiiaegfaa", sum := "de9e2572c6555bba9a88574ee12104c19a024d70de9e3627c05c7a58d90494bf", func := "loop.example/g00941/laws.FnRuns", spec := "fnRuns", unfollowed := true, recurses := true, apart := false }
def FnRunsSaid : Prop := fnRunsRow.holds Try.pinned (OpenSpec.ofChange fnRunsSpec)

/-- ITS FALSE NEIGHBOUR: 'it returns false'. Refute it at one input. -/
def fnRunsWrong : ChangeSpec := { name := "fnRuns", fn := fun _ => fun
  | [d] => { results := [.lit (.bool false)], args := [d] }
  | _ => none }
def FnRunsWrongFalsely : Prop := fnRunsRow.holds Try.pinned (OpenSpec.ofChange fnRunsWrong)

/-- 'laws.FnStarted': WHATEVER THE INPUT: true; the input reads as it did. -/
def fnStartedSpec : ChangeSpec := { name := "fnStarted", fn := fun _ => fun
  | [d] => { results := [.lit (.bool true)], args := [d] }
  | _ => none }
def fnStartedRow : OpenClaim := { program := "ytpkkkigiiaegfaa", sum := "de9e2572c6555bba9a88574ee12104c19a024d70de9e3627c05c7a58d90494bf", func := "loop.example/g00941/laws.FnStarted", spec := "fnStarted", unfollowed := true, recurses := true, apart := false }
def FnStartedSaid : Prop := fnStartedRow.holds Try.pinned (OpenSpec.ofChange fnStartedSpec)

/-- ITS FALSE NEIGHBOUR: 'it returns false'. Refute it at one input. -/
def fnStartedWrong : ChangeSpec := { name := "fnStarted", fn := fun _ => fun
  | [d] => { results := [.lit (.bool false)], args := [d] }
  | _ => none }
def FnStartedWrongFalsely : Prop := fnStartedRow.holds Try.pinned (OpenSpec.ofChange fnStartedWrong)

/-- 'laws.FnFirings': WHATEVER THE INPUT: true; the input reads as it did. -/
def fnFiringsSpec : ChangeSpec := { name := "fnFirings", fn := fun _ => fun
  | [d] => { results := [.lit (.bool true)], args := [d] }
  | _ => none }
def fnFiringsRow : OpenClaim := { program := "ytpkkkigiiaegfaa", sum := "de9e2572c6555bba9a88574ee12104c19a024d70de9e3627c05c7a58d90494bf", func := "loop.example/g00941/laws.FnFirings", spec := "fnFirings", unfollowed := true, recurses := true, apart := false }
def FnFiringsSaid : Prop := fnFiringsRow.holds Try.pinned (OpenSpec.ofChange fnFiringsSpec)

/-- ITS FALSE NEIGHBOUR: 'it returns false'. Refute it at one input. -/
def fnFiringsWrong : ChangeSpec := { name := "fnFirings", fn := fun _ => fun
  | [d] => { results := [.lit (.bool false)], args := [d] }
  | _ => none }
def FnFiringsWrongFalsely : Prop := fnFiringsRow.holds Try.pinned (OpenSpec.ofChange fnFiringsWrong)

/-- 'laws.FnFiring': WHATEVER THE INPUT: true; the input reads as it did. -/
def fnFiringSpec : ChangeSpec := { name := "fnFiring", fn := fun _ => fun
  | [d] => { results := [.lit (.bool true)], args := [d] }
  | _ => none }
def fnFiringRow : OpenClaim := { program := "ytpkkkigiiaegfaa", sum := "de9e2572c6555bba9a88574ee12104c19a024d70de9e3627c05c7a58d90494bf", func := "loop.example/g00941/laws.FnFiring", spec := "fnFiring", unfollowed := true, recurses := true, apart := false }
def FnFiringSaid : Prop := fnFiringRow.holds Try.pinned (OpenSpec.ofChange fnFiringSpec)

/-- ITS FALSE NEIGHBOUR: 'it returns false'. Refute it at one input. -/
def fnFiringWrong : ChangeSpec := { name := "fnFiring", fn := fun _ => fun
  | [d] => { results := [.lit (.bool false)], args := [d] }
  | _ => none }
def FnFiringWrongFalsely : Prop := fnFiringRow.holds Try.pinned (OpenSpec.ofChange fnFiringWrong)

/-- 'laws.FnSimulated': WHATEVER THE INPUT: true; the input reads as it did. -/
def fnSimulatedSpec : ChangeSpec := { name := "fnSimulated", fn := fun _ => fun
  | [d] => { results := [.lit (.bool true)], args := [d] }
  | _ => none }
def fnSimulatedRow : OpenClaim := { program := "ytpkkkigiiaegfaa", sum := "de9e2572c6555bba9a88574ee12104c19a024d70de9e3627c05c7a58d90494bf", func := "loop.example/g00941/laws.FnSimulated", spec := "fnSimulated", unfollowed := true, recurses := true, apart := false }
def FnSimulatedSaid : Prop := fnSimulatedRow.holds Try.pinned (OpenSpec.ofChange fnSimulatedSpec)

/-- ITS FALSE NEIGHBOUR: 'it returns false'. Refute it at one input. -/
def fnSimulatedWrong : ChangeSpec := { name := "fnSimulated", fn := fun _ => fun
  | [d] => { results := [.lit (.bool false)], args := [d] }
  | _ => none }
def FnSimulatedWrongFalsely : Prop := fnSimulatedRow.holds Try.pinned (OpenSpec.ofChange fnSimulatedWrong)

/-- 'laws.FnTokenBounds': WHATEVER THE INPUT: true; the input reads as it did. -/
def fnTokenBoundsSpec : ChangeSpec := { name := "fnTokenBounds", fn := fun _ => fun
  | [d] => { results := [.lit (.bool true)], args := [d] }
  | _ => none }
def fnTokenBoundsRow : OpenClaim := { program := "ytpkkkigiiaegfaa", sum := "de9e2572c6555bba9a88574ee12104c19a024d70de9e3627c05c7a58d90494bf", func := "loop.example/g00941/laws.FnTokenBounds", spec := "fnTokenBounds", unfollowed := true, recurses := true, apart := false }
def FnTokenBoundsSaid : Prop := fnTokenBoundsRow.holds Try.pinned (OpenSpec.ofChange fnTokenBoundsSpec)

/-- ITS FALSE NEIGHBOUR: 'it returns false'. Refute it at one input. -/
def fnTokenBoundsWrong : ChangeSpec := { name := "fnTokenBounds", fn := fun _ => fun
  | [d] => { results := [.lit (.bool false)], args := [d] }
  | _ => none }
def FnTokenBoundsWrongFalsely : Prop := fnTokenBoundsRow.holds Try.pinned (OpenSpec.ofChange fnTokenBoundsWrong)

/-- 'laws.FnCircuits': WHATEVER THE INPUT: true; the input reads as it did. -/
def fnCircuitsSpec : ChangeSpec := { name := "fnCircuits", fn := fun _ => fun
  | [d] => { results := [.lit (.bool true)], args := [d] }
  | _ => none }
def fnCircuitsRow : OpenClaim := { program := "ytpkkkigiiaegfaa", sum := "de9e2572c6555bba9a88574ee12104c19a024d70de9e3627c05c7a58d90494bf", func := "loop.example/g00941/laws.FnCircuits", spec := "fnCircuits", unfollowed := true, recurses := true, apart := false }
def FnCircuitsSaid : Prop := fnCircuitsRow.holds Try.pinned (OpenSpec.ofChange fnCircuitsSpec)

/-- ITS FALSE NEIGHBOUR: 'it returns false'. Refute it at one input. -/
def fnCircuitsWrong : ChangeSpec := { name := "fnCircuits", fn := fun _ => fun
  | [d] => { results := [.lit (.bool false)], args := [d] }
  | _ => none }
def FnCircuitsWrongFalsely : Prop := fnCircuitsRow.holds Try.pinned (OpenSpec.ofChange fnCircuitsWrong)

/- THE SECOND FORM. 'bulk': how many values and letters a reading holds, each counted each time it is reached (what is shared counts as often as it is met; a slice's spare places count too). A statement '..UptoSaid' is the law's where the arguments, and the package variables that the reading takes, are together of bulk at most 1048576: NARROWER than '..Said'. Prove '..Said' where nothing that the law and all that it calls make is longer than what came in: it says more and counts as full. Else prove '..UptoSaid'. A law counts once. -/
mutual
def uptoBulk {H : Type} : DataW H → Nat
  | .lit (.string bytes) => bytes.length + 1
  | .lit _ => 1
  | .nil => 1
  | .ptr d => uptoBulk d + 1
  | .slice elems spare => uptoBulkAll elems + uptoBulkAll spare + 1
  | .agg parts => uptoBulkAll parts + 1
  | .iface _ d => uptoBulk d + 1
  | .map entries => uptoBulkEntries entries + 1
  | .held _ => 1
def uptoBulkAll {H : Type} : List (DataW H) → Nat
  | [] => 0
  | d :: r => uptoBulk d + uptoBulkAll r
def uptoBulkEntries {H : Type} : List (Lit × DataW H) → Nat
  | [] => 0
  | x :: r => uptoBulkEntry x + uptoBulkEntries r
def uptoBulkEntry {H : Type} : Lit × DataW H → Nat
  | (.string bytes, d) => bytes.length + uptoBulk d + 1
  | (_, d) => uptoBulk d + 1
 end
def uptoSmall : (H : Type) → List (DataW H) → Bool := fun _ ds => decide (uptoBulkAll ds ≤ 1048576)
def OpenSpec.upto (s : _root_.Go.ChangeSpec) : _root_.Go.OpenSpec := { _root_.Go.OpenSpec.ofChange s with cond := some uptoSmall }

/-- 'laws.FnExactCycleTime', WHERE WHAT IT READS IS OF BULK AT MOST 1048576: true; the input reads as it did. -/
def fnExactCycleTimeUptoRow : OpenClaim := { program := "ytpkkkigiiaegfaa", sum := "de9e2572c6555bba9a88574ee12104c19a024d70de9e3627c05c7a58d90494bf", func := "loop.example/g00941/laws.FnExactCycleTime", spec := "fnExactCycleTime", unfollowed := true, recurses := true, apart := false, narrowed := true }
def FnExactCycleTimeUptoSaid : Prop := fnExactCycleTimeUptoRow.holds Try.pinned (OpenSpec.upto fnExactCycleTimeSpec)

/-- 'laws.FnExactRoomsSuffice', WHERE WHAT IT READS IS OF BULK AT MOST 1048576: true; the input reads as it did. -/
def fnExactRoomsSufficeUptoRow : OpenClaim := { program := "ytpkkkigiiaegfaa", sum := "de9e2572c6555bba9a88574ee12104c19a024d70de9e3627c05c7a58d90494bf", func := "loop.example/g00941/laws.FnExactRoomsSuffice", spec := "fnExactRoomsSuffice", unfollowed := true, recurses := true, apart := false, narrowed := true }
def FnExactRoomsSufficeUptoSaid : Prop := fnExactRoomsSufficeUptoRow.holds Try.pinned (OpenSpec.upto fnExactRoomsSufficeSpec)

/-- 'laws.FnExactEventTime', WHERE WHAT IT READS IS OF BULK AT MOST 1048576: true; the input reads as it did. -/
def fnExactEventTimeUptoRow : OpenClaim := { program := "ytpkkkigiiaegfaa", sum := "de9e2572c6555bba9a88574ee12104c19a024d70de9e3627c05c7a58d90494bf", func := "loop.example/g00941/laws.FnExactEventTime", spec := "fnExactEventTime", unfollowed := true, recurses := true, apart := false, narrowed := true }
def FnExactEventTimeUptoSaid : Prop := fnExactEventTimeUptoRow.holds Try.pinned (OpenSpec.upto fnExactEventTimeSpec)

/-- 'laws.FnExactStateMatrix', WHERE WHAT IT READS IS OF BULK AT MOST 1048576: true; the input reads as it did. -/
def fnExactStateMatrixUptoRow : OpenClaim := { program := "ytpkkkigiiaegfaa", sum := "de9e2572c6555bba9a88574ee12104c19a024d70de9e3627c05c7a58d90494bf", func := "loop.example/g00941/laws.FnExactStateMatrix", spec := "fnExactStateMatrix", unfollowed := true, recurses := true, apart := false, narrowed := true }
def FnExactStateMatrixUptoSaid : Prop := fnExactStateMatrixUptoRow.holds Try.pinned (OpenSpec.upto fnExactStateMatrixSpec)

/-- 'laws.FnExactIsFiringTable', WHERE WHAT IT READS IS OF BULK AT MOST 1048576: true; the input reads as it did. -/
def fnExactIsFiringTableUptoRow : OpenClaim := { program := "ytpkkkigiiaegfaa", sum := "de9e2572c6555bba9a88574ee12104c19a024d70de9e3627c05c7a58d90494bf", func := "loop.example/g00941/laws.FnExactIsFiringTable", spec := "fnExactIsFiringTable", unfollowed := true, recurses := true, apart := false, narrowed := true }
def FnExactIsFiringTableUptoSaid : Prop := fnExactIsFiringTableUptoRow.holds Try.pinned (OpenSpec.upto fnExactIsFiringTableSpec)

/-- 'laws.FnRuns', WHERE WHAT IT READS IS OF BULK AT MOST 1048576: true; the input reads as it did. -/
def fnRunsUptoRow : OpenClaim := { program := "ytpkkkigiiaegfaa", sum := "de9e2572c6555bba9a88574ee12104c19a024d70de9e3627c05c7a58d90494bf", func := "loop.example/g00941/laws.FnRuns", spec := "fnRuns", unfollowed := true, recurses := true, apart := false, narrowed := true }
def FnRunsUptoSaid : Prop := fnRunsUptoRow.holds Try.pinned (OpenSpec.upto fnRunsSpec)

/-- 'laws.FnStarted', WHERE WHAT IT READS IS OF BULK AT MOST 1048576: true; the input reads as it did. -/
def fnStartedUptoRow : OpenClaim := { program := "ytpkkkigiiaegfaa", sum := "de9e2572c6555bba9a88574ee12104c19a024d70de9e3627c05c7a58d90494bf", func := "loop.example/g00941/laws.FnStarted", spec := "fnStarted", unfollowed := true, recurses := true, apart := false, narrowed := true }
def FnStartedUptoSaid : Prop := fnStartedUptoRow.holds Try.pinned (OpenSpec.upto fnStartedSpec)

/-- 'laws.FnFirings', WHERE WHAT IT READS IS OF BULK AT MOST 1048576: true; the input reads as it did. -/
def fnFiringsUptoRow : OpenClaim := { program := "ytpkkkigiiaegfaa", sum := "de9e2572c6555bba9a88574ee12104c19a024d70de9e3627c05c7a58d90494bf", func := "loop.example/g00941/laws.FnFirings", spec := "fnFirings", unfollowed := true, recurses := true, apart := false, narrowed := true }
def FnFiringsUptoSaid : Prop := fnFiringsUptoRow.holds Try.pinned (OpenSpec.upto fnFiringsSpec)

/-- 'laws.FnFiring', WHERE WHAT IT READS IS OF BULK AT MOST 1048576: true; the input reads as it did. -/
def fnFiringUptoRow : OpenClaim := { program := "ytpkkkigiiaegfaa", sum := "de9e2572c6555bba9a88574ee12104c19a024d70de9e3627c05c7a58d90494bf", func := "loop.example/g00941/laws.FnFiring", spec := "fnFiring", unfollowed := true, recurses := true, apart := false, narrowed := true }
def FnFiringUptoSaid : Prop := fnFiringUptoRow.holds Try.pinned (OpenSpec.upto fnFiringSpec)

/-- 'laws.FnSimulated', WHERE WHAT IT READS IS OF BULK AT MOST 1048576: true; the input reads as it did. -/
def fnSimulatedUptoRow : OpenClaim := { program := "ytpkkkigiiaegfaa", sum := "de9e2572c6555bba9a88574ee12104c19a024d70de9e3627c05c7a58d90494bf", func := "loop.example/g00941/laws.FnSimulated", spec := "fnSimulated", unfollowed := true, recurses := true, apart := false, narrowed := true }
def FnSimulatedUptoSaid : Prop := fnSimulatedUptoRow.holds Try.pinned (OpenSpec.upto fnSimulatedSpec)

/-- 'laws.FnTokenBounds', WHERE WHAT IT READS IS OF BULK AT MOST 1048576: true; the input reads as it did. -/
def fnTokenBoundsUptoRow : OpenClaim := { program := "ytpkkkigiiaegfaa", sum := "de9e2572c6555bba9a88574ee12104c19a024d70de9e3627c05c7a58d90494bf", func := "loop.example/g00941/laws.FnTokenBounds", spec := "fnTokenBounds", unfollowed := true, recurses := true, apart := false, narrowed := true }
def FnTokenBoundsUptoSaid : Prop := fnTokenBoundsUptoRow.holds Try.pinned (OpenSpec.upto fnTokenBoundsSpec)

/-- 'laws.FnCircuits', WHERE WHAT IT READS IS OF BULK AT MOST 1048576: true; the input reads as it did. -/
def fnCircuitsUptoRow : OpenClaim := { program := "ytpkkkigiiaegfaa", sum := "de9e2572c6555bba9a88574ee12104c19a024d70de9e3627c05c7a58d90494bf", func := "loop.example/g00941/laws.FnCircuits", spec := "fnCircuits", unfollowed := true, recurses := true, apart := false, narrowed := true }
def FnCircuitsUptoSaid : Prop := fnCircuitsUptoRow.holds Try.pinned (OpenSpec.upto fnCircuitsSpec)

end Rows
end Go.Proofs.Ytpkkkigiiaegfaa
