/-
  No cell of these rows narrows 'for every input' (looked for: loops, veiled, ifaces, maps, wideKeys, modest, calm, conditions, laid).
  DERIVED. THE GIVEN ROWS OF THIS SEAT. 12 by the template 'for every input the law returns true; each argument reads behind the call as it read before'; 0 by the template 'total and deterministic' (their statements: YtobbidlbihnodaaTotals.lean).
  GIVEN WITH THE SEED: the statements are not yours to turn. If you find one false, say at which input.
  Laid BY PROGRAM, IN A SANDBOX (cutbox-rows.mjs): the forced cells as the released guide's own fill.sh prints them over the translation 7e07ca24149fc206… (all of the seat's roots in one cut). By AI agents, Wed Nov 11 2026. No macro, syntax, notation, axiom, sorry.
-/
import Derived.Test.YtobbidlbihnodaaChecked
import GoSem.Claim
import GoSem.ClaimJoined
import GoSem.ClaimMapViews
import Derived.JoinedTies
import Derived.KernelRfl
namespace Go.Proofs.Ytobbidlbihnodaa
/- THE CELL 'sum', in the pinned program and in every row, IS THE sha256 OF THE DUMP (.gsa) THAT YtobbidlbihnodaaProg.lean LOADS. Nothing in Lean hashes anything: it is a label: what it is worth is what the hold of that sum in a sandbox is worth. -/
noncomputable def Try.pinned : Pinned := { name := "ytobbidlbihnodaa", sum := "7e07ca24149fc206b6d15f0181232bfa13899c4593f72bbd33632e614e0d8b1f", checked := Try.checked }
namespace Rows
def none {H : Type} : Left H := { results := [], args := [] }

/-- 'laws.FnExactUnrollGraph': WHATEVER THE INPUT: true; the input reads as it did. -/
def fnExactUnrollGraphSpec : ChangeSpec := { name := "fnExactUnrollGraph", fn := fun _ => fun
  | [d1, d2] => { results := [.lit (.bool true)], args := [d1, d2] }
  | _ => none }
def fnExactUnrollGraphRow : OpenClaim := { program := "ytobbidlbihnodaa", sum := "7e07ca24149fc206b6d15f0181232bfa13899c4593f72bbd33632e614e0d8b1f", func := "loop.example/g00941/laws.FnExactUnrollGraph", spec := "fnExactUnrollGraph", unfollowed := true, recurses := true, apart := false }
def FnExactUnrollGraphSaid : Prop := fnExactUnrollGraphRow.holds Try.pinned (OpenSpec.ofChange fnExactUnrollGraphSpec)

/-- ITS FALSE NEIGHBOUR: 'it returns false'. Refute it at one input. -/
def fnExactUnrollGraphWrong : ChangeSpec := { name := "fnExactUnrollGraph", fn := fun _ => fun
  | [d1, d2] => { results := [.lit (.bool false)], args := [d1, d2] }
  | _ => none }
def FnExactUnrollGraphWrongFalsely : Prop := fnExactUnrollGraphRow.holds Try.pinned (OpenSpec.ofChange fnExactUnrollGraphWrong)

/-- 'laws.FnExactIsTimePotential': WHATEVER THE INPUT: true; the input reads as it did. -/
def fnExactIsTimePotentialSpec : ChangeSpec := { name := "fnExactIsTimePotential", fn := fun _ => fun
  | [d1, d2, d3] => { results := [.lit (.bool true)], args := [d1, d2, d3] }
  | _ => none }
def fnExactIsTimePotentialRow : OpenClaim := { program := "ytobbidlbihnodaa", sum := "7e07ca24149fc206b6d15f0181232bfa13899c4593f72bbd33632e614e0d8b1f", func := "loop.example/g00941/laws.FnExactIsTimePotential", spec := "fnExactIsTimePotential", unfollowed := true, recurses := true, apart := false }
def FnExactIsTimePotentialSaid : Prop := fnExactIsTimePotentialRow.holds Try.pinned (OpenSpec.ofChange fnExactIsTimePotentialSpec)

/-- ITS FALSE NEIGHBOUR: 'it returns false'. Refute it at one input. -/
def fnExactIsTimePotentialWrong : ChangeSpec := { name := "fnExactIsTimePotential", fn := fun _ => fun
  | [d1, d2, d3] => { results := [.lit (.bool false)], args := [d1, d2, d3] }
  | _ => none }
def FnExactIsTimePotentialWrongFalsely : Prop := fnExactIsTimePotentialRow.holds Try.pinned (OpenSpec.ofChange fnExactIsTimePotentialWrong)

/-- 'laws.FnExactJoinGraphs': WHATEVER THE INPUT: true; the input reads as it did. -/
def fnExactJoinGraphsSpec : ChangeSpec := { name := "fnExactJoinGraphs", fn := fun _ => fun
  | [d1, d2] => { results := [.lit (.bool true)], args := [d1, d2] }
  | _ => none }
def fnExactJoinGraphsRow : OpenClaim := { program := "ytobbidlbihnodaa", sum := "7e07ca24149fc206b6d15f0181232bfa13899c4593f72bbd33632e614e0d8b1f", func := "loop.example/g00941/laws.FnExactJoinGraphs", spec := "fnExactJoinGraphs", unfollowed := true, recurses := true, apart := false }
def FnExactJoinGraphsSaid : Prop := fnExactJoinGraphsRow.holds Try.pinned (OpenSpec.ofChange fnExactJoinGraphsSpec)

/-- ITS FALSE NEIGHBOUR: 'it returns false'. Refute it at one input. -/
def fnExactJoinGraphsWrong : ChangeSpec := { name := "fnExactJoinGraphs", fn := fun _ => fun
  | [d1, d2] => { results := [.lit (.bool false)], args := [d1, d2] }
  | _ => none }
def FnExactJoinGraphsWrongFalsely : Prop := fnExactJoinGraphsRow.holds Try.pinned (OpenSpec.ofChange fnExactJoinGraphsWrong)

/-- 'laws.FnExactEnabledIn': WHATEVER THE INPUT: true; the input reads as it did. -/
def fnExactEnabledInSpec : ChangeSpec := { name := "fnExactEnabledIn", fn := fun _ => fun
  | [d1, d2] => { results := [.lit (.bool true)], args := [d1, d2] }
  | _ => none }
def fnExactEnabledInRow : OpenClaim := { program := "ytobbidlbihnodaa", sum := "7e07ca24149fc206b6d15f0181232bfa13899c4593f72bbd33632e614e0d8b1f", func := "loop.example/g00941/laws.FnExactEnabledIn", spec := "fnExactEnabledIn", unfollowed := true, recurses := true, apart := false }
def FnExactEnabledInSaid : Prop := fnExactEnabledInRow.holds Try.pinned (OpenSpec.ofChange fnExactEnabledInSpec)

/-- ITS FALSE NEIGHBOUR: 'it returns false'. Refute it at one input. -/
def fnExactEnabledInWrong : ChangeSpec := { name := "fnExactEnabledIn", fn := fun _ => fun
  | [d1, d2] => { results := [.lit (.bool false)], args := [d1, d2] }
  | _ => none }
def FnExactEnabledInWrongFalsely : Prop := fnExactEnabledInRow.holds Try.pinned (OpenSpec.ofChange fnExactEnabledInWrong)

/-- 'laws.FnExactIsRun': WHATEVER THE INPUT: true; the input reads as it did. -/
def fnExactIsRunSpec : ChangeSpec := { name := "fnExactIsRun", fn := fun _ => fun
  | [d1, d2] => { results := [.lit (.bool true)], args := [d1, d2] }
  | _ => none }
def fnExactIsRunRow : OpenClaim := { program := "ytobbidlbihnodaa", sum := "7e07ca24149fc206b6d15f0181232bfa13899c4593f72bbd33632e614e0d8b1f", func := "loop.example/g00941/laws.FnExactIsRun", spec := "fnExactIsRun", unfollowed := true, recurses := true, apart := false }
def FnExactIsRunSaid : Prop := fnExactIsRunRow.holds Try.pinned (OpenSpec.ofChange fnExactIsRunSpec)

/-- ITS FALSE NEIGHBOUR: 'it returns false'. Refute it at one input. -/
def fnExactIsRunWrong : ChangeSpec := { name := "fnExactIsRun", fn := fun _ => fun
  | [d1, d2] => { results := [.lit (.bool false)], args := [d1, d2] }
  | _ => none }
def FnExactIsRunWrongFalsely : Prop := fnExactIsRunRow.holds Try.pinned (OpenSpec.ofChange fnExactIsRunWrong)

/-- 'laws.FnExactDelayMatrix': WHATEVER THE INPUT: true; the input reads as it did. -/
def fnExactDelayMatrixSpec : ChangeSpec := { name := "fnExactDelayMatrix", fn := fun _ => fun
  | [d1, d2] => { results := [.lit (.bool true)], args := [d1, d2] }
  | _ => none }
def fnExactDelayMatrixRow : OpenClaim := { program := "ytobbidlbihnodaa", sum := "7e07ca24149fc206b6d15f0181232bfa13899c4593f72bbd33632e614e0d8b1f", func := "loop.example/g00941/laws.FnExactDelayMatrix", spec := "fnExactDelayMatrix", unfollowed := true, recurses := true, apart := false }
def FnExactDelayMatrixSaid : Prop := fnExactDelayMatrixRow.holds Try.pinned (OpenSpec.ofChange fnExactDelayMatrixSpec)

/-- ITS FALSE NEIGHBOUR: 'it returns false'. Refute it at one input. -/
def fnExactDelayMatrixWrong : ChangeSpec := { name := "fnExactDelayMatrix", fn := fun _ => fun
  | [d1, d2] => { results := [.lit (.bool false)], args := [d1, d2] }
  | _ => none }
def FnExactDelayMatrixWrongFalsely : Prop := fnExactDelayMatrixRow.holds Try.pinned (OpenSpec.ofChange fnExactDelayMatrixWrong)

/-- 'laws.FnExactStationLoad': WHATEVER THE INPUT: true; the input reads as it did. -/
def fnExactStationLoadSpec : ChangeSpec := { name := "fnExactStationLoad", fn := fun _ => fun
  | [d1, d2] => { results := [.lit (.bool true)], args := [d1, d2] }
  | _ => none }
def fnExactStationLoadRow : OpenClaim := { program := "ytobbidlbihnodaa", sum := "7e07ca24149fc206b6d15f0181232bfa13899c4593f72bbd33632e614e0d8b1f", func := "loop.example/g00941/laws.FnExactStationLoad", spec := "fnExactStationLoad", unfollowed := true, recurses := true, apart := false }
def FnExactStationLoadSaid : Prop := fnExactStationLoadRow.holds Try.pinned (OpenSpec.ofChange fnExactStationLoadSpec)

/-- ITS FALSE NEIGHBOUR: 'it returns false'. Refute it at one input. -/
def fnExactStationLoadWrong : ChangeSpec := { name := "fnExactStationLoad", fn := fun _ => fun
  | [d1, d2] => { results := [.lit (.bool false)], args := [d1, d2] }
  | _ => none }
def FnExactStationLoadWrongFalsely : Prop := fnExactStationLoadRow.holds Try.pinned (OpenSpec.ofChange fnExactStationLoadWrong)

/-- 'laws.FnExactCircuitRatio': WHATEVER THE INPUT: true; the input reads as it did. -/
def fnExactCircuitRatioSpec : ChangeSpec := { name := "fnExactCircuitRatio", fn := fun _ => fun
  | [d1, d2] => { results := [.lit (.bool true)], args := [d1, d2] }
  | _ => none }
def fnExactCircuitRatioRow : OpenClaim := { program := "ytobbidlbihnodaa", sum := "7e07ca24149fc206b6d15f0181232bfa13899c4593f72bbd33632e614e0d8b1f", func := "loop.example/g00941/laws.FnExactCircuitRatio", spec := "fnExactCircuitRatio", unfollowed := true, recurses := true, apart := false }
def FnExactCircuitRatioSaid : Prop := fnExactCircuitRatioRow.holds Try.pinned (OpenSpec.ofChange fnExactCircuitRatioSpec)

/-- ITS FALSE NEIGHBOUR: 'it returns false'. Refute it at one input. -/
def fnExactCircuitRatioWrong : ChangeSpec := { name := "fnExactCircuitRatio", fn := fun _ => fun
  | [d1, d2] => { results := [.lit (.bool false)], args := [d1, d2] }
  | _ => none }
def FnExactCircuitRatioWrongFalsely : Prop := fnExactCircuitRatioRow.holds Try.pinned (OpenSpec.ofChange fnExactCircuitRatioWrong)

/-- 'laws.FnExactFireEvent': WHATEVER THE INPUT: true; the input reads as it did. -/
def fnExactFireEventSpec : ChangeSpec := { name := "fnExactFireEvent", fn := fun _ => fun
  | [d1, d2, d3] => { results := [.lit (.bool true)], args := [d1, d2, d3] }
  | _ => none }
def fnExactFireEventRow : OpenClaim := { program := "ytobbidlbihnodaa", sum := "7e07ca24149fc206b6d15f0181232bfa13899c4593f72bbd33632e614e0d8b1f", func := "loop.example/g00941/laws.FnExactFireEvent", spec := "fnExactFireEvent", unfollowed := true, recurses := true, apart := false }
def FnExactFireEventSaid : Prop := fnExactFireEventRow.holds Try.pinned (OpenSpec.ofChange fnExactFireEventSpec)

/-- ITS FALSE NEIGHBOUR: 'it returns false'. Refute it at one input. -/
def fnExactFireEventWrong : ChangeSpec := { name := "fnExactFireEvent", fn := fun _ => fun
  | [d1, d2, d3] => { results := [.lit (.bool false)], args := [d1, d2, d3] }
  | _ => none }
def FnExactFireEventWrongFalsely : Prop := fnExactFireEventRow.holds Try.pinned (OpenSpec.ofChange fnExactFireEventWrong)

/-- 'laws.FnExactLimitPlace': WHATEVER THE INPUT: true; the input reads as it did. -/
def fnExactLimitPlaceSpec : ChangeSpec := { name := "fnExactLimitPlace", fn := fun _ => fun
  | [d1, d2, d3] => { results := [.lit (.bool true)], args := [d1, d2, d3] }
  | _ => none }
def fnExactLimitPlaceRow : OpenClaim := { program := "ytobbidlbihnodaa", sum := "7e07ca24149fc206b6d15f0181232bfa13899c4593f72bbd33632e614e0d8b1f", func := "loop.example/g00941/laws.FnExactLimitPlace", spec := "fnExactLimitPlace", unfollowed := true, recurses := true, apart := false }
def FnExactLimitPlaceSaid : Prop := fnExactLimitPlaceRow.holds Try.pinned (OpenSpec.ofChange fnExactLimitPlaceSpec)

/-- ITS FALSE NEIGHBOUR: 'it returns false'. Refute it at one input. -/
def fnExactLimitPlaceWrong : ChangeSpec := { name := "fnExactLimitPlace", fn := fun _ => fun
  | [d1, d2, d3] => { results := [.lit (.bool false)], args := [d1, d2, d3] }
  | _ => none }
def FnExactLimitPlaceWrongFalsely : Prop := fnExactLimitPlaceRow.holds Try.pinned (OpenSpec.ofChange fnExactLimitPlaceWrong)

/-- 'laws.FnExactLimitPlaces': WHATEVER THE INPUT: true; the input reads as it did. -/
def fnExactLimitPlacesSpec : ChangeSpec := { name := "fnExactLimitPlaces", fn := fun _ => fun
  | [d1, d2, d3] => { results := [.lit (.bool true)], args := [d1, d2, d3] }
  | _ => none }
def fnExactLimitPlacesRow : OpenClaim := { program := "ytobbidlbihnodaa", sum := "7e07ca24149fc206b6d15f0181232bfa13899c4593f72bbd33632e614e0d8b1f", func := "loop.example/g00941/laws.FnExactLimitPlaces", spec := "fnExactLimitPlaces", unfollowed := true, recurses := true, apart := false }
def FnExactLimitPlacesSaid : Prop := fnExactLimitPlacesRow.holds Try.pinned (OpenSpec.ofChange fnExactLimitPlacesSpec)

/-- ITS FALSE NEIGHBOUR: 'it returns false'. Refute it at one input. -/
def fnExactLimitPlacesWrong : ChangeSpec := { name := "fnExactLimitPlaces", fn := fun _ => fun
  | [d1, d2, d3] => { results := [.lit (.bool false)], args := [d1, d2, d3] }
  | _ => none }
def FnExactLimitPlacesWrongFalsely : Prop := fnExactLimitPlacesRow.holds Try.pinned (OpenSpec.ofChange fnExactLimitPlacesWrong)

/-- 'laws.FnExactFiringOrder': WHATEVER THE INPUT: true; the input reads as it did. -/
def fnExactFiringOrderSpec : ChangeSpec := { name := "fnExactFiringOrder", fn := fun _ => fun
  | [d] => { results := [.lit (.bool true)], args := [d] }
  | _ => none }
def fnExactFiringOrderRow : OpenClaim := { program := "ytobbidlbihnodaa", sum := "7e07ca24149fc206b6d15f0181232bfa13899c4593f72bbd33632e614e0d8b1f", func := "loop.example/g00941/laws.FnExactFiringOrder", spec := "fnExactFiringOrder", unfollowed := true, recurses := true, apart := false }
def FnExactFiringOrderSaid : Prop := fnExactFiringOrderRow.holds Try.pinned (OpenSpec.ofChange fnExactFiringOrderSpec)

/-- ITS FALSE NEIGHBOUR: 'it returns false'. Refute it at one input. -/
def fnExactFiringOrderWrong : ChangeSpec := { name := "fnExactFiringOrder", fn := fun _ => fun
  | [d] => { results := [.lit (.bool false)], args := [d] }
  | _ => none }
def FnExactFiringOrderWrongFalsely : Prop := fnExactFiringOrderRow.holds Try.pinned (OpenSpec.ofChange fnExactFiringOrderWrong)

/- THE SECOND FORM. 'bulk': how many values and letters a reading holds, each counted each time it is reached (what is shared counts as often as it is met; a slice's spare places count too). A statement '..UptoSaid' is the law's where the arguments, and the package variables that the reading takes, are together of bulk at most 1048576: NARROWER than '..Said'. Prove '..Said' where nothing that the law and all that it calls make is longer than what came in: it says more and counts as full. Else prove '..UptoSaid'. A law counts once. -/
mutual
def uptoBulk {H : Type} : DataW H → Nat
  | .lit (.string bytes) => bytes.length + 1
  | .lit _ => 1
  | .nil => 1
  | .ptr d => uptoBulk d + 1
  | .slice elems spare => uptoBulkAll elems + uptoBulkAll spare + 1
  | .agg parts => uptoBulkAll parts + 1
  | .iface _ d => uptoBulk d + 1
  | .map entries => uptoBulkEntries entries + 1
  | .held _ => 1
def uptoBulkAll {H : Type} : List (DataW H) → Nat
  | [] => 0
  | d :: r => uptoBulk d + uptoBulkAll r
def uptoBulkEntries {H : Type} : List (Lit × DataW H) → Nat
  | [] => 0
  | x :: r => uptoBulkEntry x + uptoBulkEntries r
def uptoBulkEntry {H : Type} : Lit × DataW H → Nat
  | (.string bytes, d) => bytes.length + uptoBulk d + 1
  | (_, d) => uptoBulk d + 1
 end
def uptoSmall : (H : Type) → List (DataW H) → Bool := fun _ ds => decide (uptoBulkAll ds ≤ 1048576)
def OpenSpec.upto (s : _root_.Go.ChangeSpec) : _root_.Go.OpenSpec := { _root_.Go.OpenSpec.ofChange s with cond := some uptoSmall }

/-- 'laws.FnExactUnrollGraph', WHERE WHAT IT READS IS OF BULK AT MOST 1048576: true; the input reads as it did. -/
def fnExactUnrollGraphUptoRow : OpenClaim := { program := "ytobbidlbihnodaa", sum := "7e07ca24149fc206b6d15f0181232bfa13899c4593f72bbd33632e614e0d8b1f", func := "loop.example/g00941/laws.FnExactUnrollGraph", spec := "fnExactUnrollGraph", unfollowed := true, recurses := true, apart := false, narrowed := true }
def FnExactUnrollGraphUptoSaid : Prop := fnExactUnrollGraphUptoRow.holds Try.pinned (OpenSpec.upto fnExactUnrollGraphSpec)

/-- 'laws.FnExactIsTimePotential', WHERE WHAT IT READS IS OF BULK AT MOST 1048576: true; the input reads as it did. -/
def fnExactIsTimePotentialUptoRow : OpenClaim := { program := "ytobbidlbihnodaa", sum := "7e07ca24149fc206b6d15f0181232bfa13899c4593f72bbd33632e614e0d8b1f", func := "loop.example/g00941/laws.FnExactIsTimePotential", spec := "fnExactIsTimePotential", unfollowed := true, recurses := true, apart := false, narrowed := true }
def FnExactIsTimePotentialUptoSaid : Prop := fnExactIsTimePotentialUptoRow.holds Try.pinned (OpenSpec.upto fnExactIsTimePotentialSpec)

/-- 'laws.FnExactJoinGraphs', WHERE WHAT IT READS IS OF BULK AT MOST 1048576: true; the input reads as it did. -/
def fnExactJoinGraphsUptoRow : OpenClaim := { program := "ytobbidlbihnodaa", sum := "7e07ca24149fc206b6d15f0181232bfa13899c4593f72bbd33632e614e0d8b1f", func := "loop.example/g00941/laws.FnExactJoinGraphs", spec := "fnExactJoinGraphs", unfollowed := true, recurses := true, apart := false, narrowed := true }
def FnExactJoinGraphsUptoSaid : Prop := fnExactJoinGraphsUptoRow.holds Try.pinned (OpenSpec.upto fnExactJoinGraphsSpec)

/-- 'laws.FnExactEnabledIn', WHERE WHAT IT READS IS OF BULK AT MOST 1048576: true; the input reads as it did. -/
def fnExactEnabledInUptoRow : OpenClaim := { program := "ytobbidlbihnodaa", sum := "7e07ca24149fc206b6d15f0181232bfa13899c4593f72bbd33632e614e0d8b1f", func := "loop.example/g00941/laws.FnExactEnabledIn", spec := "fnExactEnabledIn", unfollowed := true, recurses := true, apart := false, narrowed := true }
def FnExactEnabledInUptoSaid : Prop := fnExactEnabledInUptoRow.holds Try.pinned (OpenSpec.upto fnExactEnabledInSpec)

/-- 'laws.FnExactIsRun', WHERE WHAT IT READS IS OF BULK AT MOST 1048576: true; the input reads as it did. -/
def fnExactIsRunUptoRow : OpenClaim := { program := "ytobbidlbihnodaa", sum := "7e07ca24149fc206b6d15f0181232bfa13899c4593f72bbd33632e614e0d8b1f", func := "loop.example/g00941/laws.FnExactIsRun", spec := "fnExactIsRun", unfollowed := true, recurses := true, apart := false, narrowed := true }
def FnExactIsRunUptoSaid : Prop := fnExactIsRunUptoRow.holds Try.pinned (OpenSpec.upto fnExactIsRunSpec)

/-- 'laws.FnExactDelayMatrix', WHERE WHAT IT READS IS OF BULK AT MOST 1048576: true; the input reads as it did. -/
def fnExactDelayMatrixUptoRow : OpenClaim := { program := "ytobbidlbihnodaa", sum := "7e07ca24149fc206b6d15f0181232bfa13899c4593f72bbd33632e614e0d8b1f", func := "loop.example/g00941/laws.FnExactDelayMatrix", spec := "fnExactDelayMatrix", unfollowed := true, recurses := true, apart := false, narrowed := true }
def FnExactDelayMatrixUptoSaid : Prop := fnExactDelayMatrixUptoRow.holds Try.pinned (OpenSpec.upto fnExactDelayMatrixSpec)

/-- 'laws.FnExactStationLoad', WHERE WHAT IT READS IS OF BULK AT MOST 1048576: true; the input reads as it did. -/
def fnExactStationLoadUptoRow : OpenClaim := { program := "ytobbidlbihnodaa", sum := "7e07ca24149fc206b6d15f0181232bfa13899c4593f72bbd33632e614e0d8b1f", func := "loop.example/g00941/laws.FnExactStationLoad", spec := "fnExactStationLoad", unfollowed := true, recurses := true, apart := false, narrowed := true }
def FnExactStationLoadUptoSaid : Prop := fnExactStationLoadUptoRow.holds Try.pinned (OpenSpec.upto fnExactStationLoadSpec)

/-- 'laws.FnExactCircuitRatio', WHERE WHAT IT READS IS OF BULK AT MOST 1048576: true; the input reads as it did. -/
def fnExactCircuitRatioUptoRow : OpenClaim := { program := "ytobbidlbihnodaa", sum := "7e07ca24149fc206b6d15f0181232bfa13899c4593f72bbd33632e614e0d8b1f", func := "loop.example/g00941/laws.FnExactCircuitRatio", spec := "fnExactCircuitRatio", unfollowed := true, recurses := true, apart := false, narrowed := true }
def FnExactCircuitRatioUptoSaid : Prop := fnExactCircuitRatioUptoRow.holds Try.pinned (OpenSpec.upto fnExactCircuitRatioSpec)

/-- 'laws.FnExactFireEvent', WHERE WHAT IT READS IS OF BULK AT MOST 1048576: true; the input reads as it did. -/
def fnExactFireEventUptoRow : OpenClaim := { program := "ytobbidlbihnodaa", sum := "7e07ca24149fc206b6d15f0181232bfa13899c4593f72bbd33632e614e0d8b1f", func := "loop.example/g00941/laws.FnExactFireEvent", spec := "fnExactFireEvent", unfollowed := true, recurses := true, apart := false, narrowed := true }
def FnExactFireEventUptoSaid : Prop := fnExactFireEventUptoRow.holds Try.pinned (OpenSpec.upto fnExactFireEventSpec)

/-- 'laws.FnExactLimitPlace', WHERE WHAT IT READS IS OF BULK AT MOST 1048576: true; the input reads as it did. -/
def fnExactLimitPlaceUptoRow : OpenClaim := { program := "ytobbidlbihnodaa", sum := "7e07ca24149fc206b6d15f0181232bfa13899c4593f72bbd33632e614e0d8b1f", func := "loop.example/g00941/laws.FnExactLimitPlace", spec := "fnExactLimitPlace", unfollowed := true, recurses := true, apart := false, narrowed := true }
def FnExactLimitPlaceUptoSaid : Prop := fnExactLimitPlaceUptoRow.holds Try.pinned (OpenSpec.upto fnExactLimitPlaceSpec)

/-- 'laws.FnExactLimitPlaces', WHERE WHAT IT READS IS OF BULK AT MOST 1048576: true; the input reads as it did. -/
def fnExactLimitPlacesUptoRow : OpenClaim := { program := "ytobbidlbihnodaa", sum := "7e07ca24149fc206b6d15f0181232bfa13899c4593f72bbd33632e614e0d8b1f", func := "loop.example/g00941/laws.FnExactLimitPlaces", spec := "fnExactLimitPlaces", unfollowed := true, recurses := true, apart := false, narrowed := true }
def FnExactLimitPlacesUptoSaid : Prop := fnExactLimitPlacesUptoRow.holds Try.pinned (OpenSpec.upto fnExactLimitPlacesSpec)

/-- 'laws.FnExactFiringOrder', WHERE WHAT IT READS IS OF BULK AT MOST 1048576: true; the input reads as it did. -/
def fnExactFiringOrderUptoRow : OpenClaim := { program := "ytobbidlbihnodaa", sum := "7e07ca24149fc206b6d15f0181232bfa13899c4593f72bbd33632e614e0d8b1f", func := "loop.example/g00941/laws.FnExactFiringOrder", spec := "fnExactFiringOrder", unfollowed := true, recurses := true, apart := false, narrowed := true }
def FnExactFiringOrderUptoSaid : Prop := fnExactFiringOrderUptoRow.holds Try.pinned (OpenSpec.upto fnExactFiringOrderSpec)

end Rows
end Go.Proofs.Ytobbidlbihnodaa
