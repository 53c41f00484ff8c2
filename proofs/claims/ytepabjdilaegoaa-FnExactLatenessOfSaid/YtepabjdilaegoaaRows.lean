/-
  No cell of these rows narrows 'for every input' (looked for: loops, veiled, ifaces, maps, wideKeys, modest, calm, conditions, laid).
  DERIVED. THE GIVEN ROWS OF THIS SEAT. 12 by the template 'for every input the law returns true; each argument reads behind the call as it read before'; 0 by the template 'total and deterministic' (their statements: YtepabjdilaegoaaTotals.lean).
  GIVEN WITH THE SEED: the statements are not yours to turn. If you find one false, say at which input.
  Laid BY PROGRAM, IN A SANDBOX (cutbox-rows.mjs): the forced cells as the released guide's own fill.sh prints them over the translation d4106856cdee3b79… (all of the seat's roots in one cut). By AI agents, Wed Nov 11 2026. No macro, syntax, notation, axiom, sorry.
-/
import Derived.Test.YtepabjdilaegoaaChecked
import GoSem.Claim
import GoSem.ClaimJoined
import GoSem.ClaimMapViews
import Derived.JoinedTies
import Derived.KernelRfl
namespace Go.Proofs.Ytepabjdilaegoaa
/- THE CELL 'sum', in the pinned program and in every row, IS THE sha256 OF THE DUMP (.gsa) THAT YtepabjdilaegoaaProg.lean LOADS. Nothing in Lean hashes anything: it is a label: what it is worth is what the hold of that sum in a sandbox is worth. -/
noncomputable def Try.pinned : Pinned := { name := "ytepabjdilaegoaa", sum := "d4106856cdee3b790ff96917e7ecc4107495fbc4ebe6a0f8b0ecc3f1ccdb4325", checked := Try.checked }
namespace Rows
def none {H : Type} : Left H := { results := [], args := [] }

/-- 'laws.FnExactJoinGraphs': WHATEVER THE INPUT: true; the input reads as it did. -/
def fnExactJoinGraphsSpec : ChangeSpec := { name := "fnExactJoinGraphs", fn := fun _ => fun
  | [d1, d2] => { results := [.lit (.bool true)], args := [d1, d2] }
  | _ => none }
def fnExactJoinGraphsRow : OpenClaim := { program := "ytepabjdilaegoaa", sum := "d4106856cdee3b790ff96917e7ecc4107495fbc4ebe6a0f8b0ecc3f1ccdb4325", func := "loop.example/g00941/laws.FnExactJoinGraphs", spec := "fnExactJoinGraphs", unfollowed := true, recurses := true, apart := false }
def FnExactJoinGraphsSaid : Prop := fnExactJoinGraphsRow.holds Try.pinned (OpenSpec.ofChange fnExactJoinGraphsSpec)

/-- ITS FALSE NEIGHBOUR: 'it returns false'. Refute it at one input. -/
def fnExactJoinGraphsWrong : ChangeSpec := { name := "fnExactJoinGraphs", fn := fun _ => fun
  | [d1, d2] => { results := [.lit (.bool false)], args := [d1, d2] }
  | _ => none }
def FnExactJoinGraphsWrongFalsely : Prop := fnExactJoinGraphsRow.holds Try.pinned (OpenSpec.ofChange fnExactJoinGraphsWrong)

/-- 'laws.FnExactIsRun': WHATEVER THE INPUT: true; the input reads as it did. -/
def fnExactIsRunSpec : ChangeSpec := { name := "fnExactIsRun", fn := fun _ => fun
  | [d1, d2] => { results := [.lit (.bool true)], args := [d1, d2] }
  | _ => none }
def fnExactIsRunRow : OpenClaim := { program := "ytepabjdilaegoaa", sum := "d4106856cdee3b790ff96917e7ecc4107495fbc4ebe6a0f8b0ecc3f1ccdb4325", func := "loop.example/g00941/laws.FnExactIsRun", spec := "fnExactIsRun", unfollowed := true, recurses := true, apart := false }
def FnExactIsRunSaid : Prop := fnExactIsRunRow.holds Try.pinned (OpenSpec.ofChange fnExactIsRunSpec)

/-- ITS FALSE NEIGHBOUR: 'it returns false'. Refute it at one input. -/
def fnExactIsRunWrong : ChangeSpec := { name := "fnExactIsRun", fn := fun _ => fun
  | [d1, d2] => { results := [.lit (.bool false)], args := [d1, d2] }
  | _ => none }
def FnExactIsRunWrongFalsely : Prop := fnExactIsRunRow.holds Try.pinned (OpenSpec.ofChange fnExactIsRunWrong)

/-- 'laws.FnExactFiringOrder': WHATEVER THE INPUT: true; the input reads as it did. -/
def fnExactFiringOrderSpec : ChangeSpec := { name := "fnExactFiringOrder", fn := fun _ => fun
  | [d] => { results := [.lit (.bool true)], args := [d] }
  | _ => none }
def fnExactFiringOrderRow : OpenClaim := { program := "ytepabjdilaegoaa", sum := "d4106856cdee3b790ff96917e7ecc4107495fbc4ebe6a0f8b0ecc3f1ccdb4325", func := "loop.example/g00941/laws.FnExactFiringOrder", spec := "fnExactFiringOrder", unfollowed := true, recurses := true, apart := false }
def FnExactFiringOrderSaid : Prop := fnExactFiringOrderRow.holds Try.pinned (OpenSpec.ofChange fnExactFiringOrderSpec)

/-- ITS FALSE NEIGHBOUR: 'it returns false'. Refute it at one input. -/
def fnExactFiringOrderWrong : ChangeSpec := { name := "fnExactFiringOrder", fn := fun _ => fun
  | [d] => { results := [.lit (.bool false)], args := [d] }
  | _ => none }
def FnExactFiringOrderWrongFalsely : Prop := fnExactFiringOrderRow.holds Try.pinned (OpenSpec.ofChange fnExactFiringOrderWrong)

/-- 'laws.FnExactFiringTime': WHATEVER THE INPUT: true; the input reads as it did. -/
def fnExactFiringTimeSpec : ChangeSpec := { name := "fnExactFiringTime", fn := fun _ => fun
  | [d1, d2, d3] => { results := [.lit (.bool true)], args := [d1, d2, d3] }
  | _ => none }
def fnExactFiringTimeRow : OpenClaim := { program := "ytepabjdilaegoaa", sum := "d4106856cdee3b790ff96917e7ecc4107495fbc4ebe6a0f8b0ecc3f1ccdb4325", func := "loop.example/g00941/laws.FnExactFiringTime", spec := "fnExactFiringTime", unfollowed := true, recurses := true, apart := false }
def FnExactFiringTimeSaid : Prop := fnExactFiringTimeRow.holds Try.pinned (OpenSpec.ofChange fnExactFiringTimeSpec)

/-- ITS FALSE NEIGHBOUR: 'it returns false'. Refute it at one input. -/
def fnExactFiringTimeWrong : ChangeSpec := { name := "fnExactFiringTime", fn := fun _ => fun
  | [d1, d2, d3] => { results := [.lit (.bool false)], args := [d1, d2, d3] }
  | _ => none }
def FnExactFiringTimeWrongFalsely : Prop := fnExactFiringTimeRow.holds Try.pinned (OpenSpec.ofChange fnExactFiringTimeWrong)

/-- 'laws.FnExactLevelsOf': WHATEVER THE INPUT: true; the input reads as it did. -/
def fnExactLevelsOfSpec : ChangeSpec := { name := "fnExactLevelsOf", fn := fun _ => fun
  | [d] => { results := [.lit (.bool true)], args := [d] }
  | _ => none }
def fnExactLevelsOfRow : OpenClaim := { program := "ytepabjdilaegoaa", sum := "d4106856cdee3b790ff96917e7ecc4107495fbc4ebe6a0f8b0ecc3f1ccdb4325", func := "loop.example/g00941/laws.FnExactLevelsOf", spec := "fnExactLevelsOf", unfollowed := true, recurses := true, apart := false }
def FnExactLevelsOfSaid : Prop := fnExactLevelsOfRow.holds Try.pinned (OpenSpec.ofChange fnExactLevelsOfSpec)

/-- ITS FALSE NEIGHBOUR: 'it returns false'. Refute it at one input. -/
def fnExactLevelsOfWrong : ChangeSpec := { name := "fnExactLevelsOf", fn := fun _ => fun
  | [d] => { results := [.lit (.bool false)], args := [d] }
  | _ => none }
def FnExactLevelsOfWrongFalsely : Prop := fnExactLevelsOfRow.holds Try.pinned (OpenSpec.ofChange fnExactLevelsOfWrong)

/-- 'laws.FnExactFireSequence': WHATEVER THE INPUT: true; the input reads as it did. -/
def fnExactFireSequenceSpec : ChangeSpec := { name := "fnExactFireSequence", fn := fun _ => fun
  | [d1, d2] => { results := [.lit (.bool true)], args := [d1, d2] }
  | _ => none }
def fnExactFireSequenceRow : OpenClaim := { program := "ytepabjdilaegoaa", sum := "d4106856cdee3b790ff96917e7ecc4107495fbc4ebe6a0f8b0ecc3f1ccdb4325", func := "loop.example/g00941/laws.FnExactFireSequence", spec := "fnExactFireSequence", unfollowed := true, recurses := true, apart := false }
def FnExactFireSequenceSaid : Prop := fnExactFireSequenceRow.holds Try.pinned (OpenSpec.ofChange fnExactFireSequenceSpec)

/-- ITS FALSE NEIGHBOUR: 'it returns false'. Refute it at one input. -/
def fnExactFireSequenceWrong : ChangeSpec := { name := "fnExactFireSequence", fn := fun _ => fun
  | [d1, d2] => { results := [.lit (.bool false)], args := [d1, d2] }
  | _ => none }
def FnExactFireSequenceWrongFalsely : Prop := fnExactFireSequenceRow.holds Try.pinned (OpenSpec.ofChange fnExactFireSequenceWrong)

/-- 'laws.FnExactMarkingAfter': WHATEVER THE INPUT: true; the input reads as it did. -/
def fnExactMarkingAfterSpec : ChangeSpec := { name := "fnExactMarkingAfter", fn := fun _ => fun
  | [d1, d2] => { results := [.lit (.bool true)], args := [d1, d2] }
  | _ => none }
def fnExactMarkingAfterRow : OpenClaim := { program := "ytepabjdilaegoaa", sum := "d4106856cdee3b790ff96917e7ecc4107495fbc4ebe6a0f8b0ecc3f1ccdb4325", func := "loop.example/g00941/laws.FnExactMarkingAfter", spec := "fnExactMarkingAfter", unfollowed := true, recurses := true, apart := false }
def FnExactMarkingAfterSaid : Prop := fnExactMarkingAfterRow.holds Try.pinned (OpenSpec.ofChange fnExactMarkingAfterSpec)

/-- ITS FALSE NEIGHBOUR: 'it returns false'. Refute it at one input. -/
def fnExactMarkingAfterWrong : ChangeSpec := { name := "fnExactMarkingAfter", fn := fun _ => fun
  | [d1, d2] => { results := [.lit (.bool false)], args := [d1, d2] }
  | _ => none }
def FnExactMarkingAfterWrongFalsely : Prop := fnExactMarkingAfterRow.holds Try.pinned (OpenSpec.ofChange fnExactMarkingAfterWrong)

/-- 'laws.FnExactSequenceFor': WHATEVER THE INPUT: true; the input reads as it did. -/
def fnExactSequenceForSpec : ChangeSpec := { name := "fnExactSequenceFor", fn := fun _ => fun
  | [d1, d2] => { results := [.lit (.bool true)], args := [d1, d2] }
  | _ => none }
def fnExactSequenceForRow : OpenClaim := { program := "ytepabjdilaegoaa", sum := "d4106856cdee3b790ff96917e7ecc4107495fbc4ebe6a0f8b0ecc3f1ccdb4325", func := "loop.example/g00941/laws.FnExactSequenceFor", spec := "fnExactSequenceFor", unfollowed := true, recurses := true, apart := false }
def FnExactSequenceForSaid : Prop := fnExactSequenceForRow.holds Try.pinned (OpenSpec.ofChange fnExactSequenceForSpec)

/-- ITS FALSE NEIGHBOUR: 'it returns false'. Refute it at one input. -/
def fnExactSequenceForWrong : ChangeSpec := { name := "fnExactSequenceFor", fn := fun _ => fun
  | [d1, d2] => { results := [.lit (.bool false)], args := [d1, d2] }
  | _ => none }
def FnExactSequenceForWrongFalsely : Prop := fnExactSequenceForRow.holds Try.pinned (OpenSpec.ofChange fnExactSequenceForWrong)

/-- 'laws.FnExactNextEvents': WHATEVER THE INPUT: true; the input reads as it did. -/
def fnExactNextEventsSpec : ChangeSpec := { name := "fnExactNextEvents", fn := fun _ => fun
  | [d1, d2] => { results := [.lit (.bool true)], args := [d1, d2] }
  | _ => none }
def fnExactNextEventsRow : OpenClaim := { program := "ytepabjdilaegoaa", sum := "d4106856cdee3b790ff96917e7ecc4107495fbc4ebe6a0f8b0ecc3f1ccdb4325", func := "loop.example/g00941/laws.FnExactNextEvents", spec := "fnExactNextEvents", unfollowed := true, recurses := true, apart := false }
def FnExactNextEventsSaid : Prop := fnExactNextEventsRow.holds Try.pinned (OpenSpec.ofChange fnExactNextEventsSpec)

/-- ITS FALSE NEIGHBOUR: 'it returns false'. Refute it at one input. -/
def fnExactNextEventsWrong : ChangeSpec := { name := "fnExactNextEvents", fn := fun _ => fun
  | [d1, d2] => { results := [.lit (.bool false)], args := [d1, d2] }
  | _ => none }
def FnExactNextEventsWrongFalsely : Prop := fnExactNextEventsRow.holds Try.pinned (OpenSpec.ofChange fnExactNextEventsWrong)

/-- 'laws.FnExactLatenessOf': WHATEVER THE INPUT: true; the input reads as it did. -/
def fnExactLatenessOfSpec : ChangeSpec := { name := "fnExactLatenessOf", fn := fun _ => fun
  | [d1, d2] => { results := [.lit (.bool true)], args := [d1, d2] }
  | _ => none }
def fnExactLatenessOfRow : OpenClaim := { program := "ytepabjdilaegoaa", sum := "d4106856cdee3b790ff96917e7ecc4107495fbc4ebe6a0f8b0ecc3f1ccdb4325", func := "loop.example/g00941/laws.FnExactLatenessOf", spec := "fnExactLatenessOf", unfollowed := true, recurses := true, apart := false }
def FnExactLatenessOfSaid : Prop := fnExactLatenessOfRow.holds Try.pinned (OpenSpec.ofChange fnExactLatenessOfSpec)

/-- ITS FALSE NEIGHBOUR: 'it returns false'. Refute it at one input. -/
def fnExactLatenessOfWrong : ChangeSpec := { name := "fnExactLatenessOf", fn := fun _ => fun
  | [d1, d2] => { results := [.lit (.bool false)], args := [d1, d2] }
  | _ => none }
def FnExactLatenessOfWrongFalsely : Prop := fnExactLatenessOfRow.holds Try.pinned (OpenSpec.ofChange fnExactLatenessOfWrong)

/-- 'laws.FnExactReachableMarkings': WHATEVER THE INPUT: true; the input reads as it did. -/
def fnExactReachableMarkingsSpec : ChangeSpec := { name := "fnExactReachableMarkings", fn := fun _ => fun
  | [d] => { results := [.lit (.bool true)], args := [d] }
  | _ => none }
def fnExactReachableMarkingsRow : OpenClaim := { program := "ytepabjdilaegoaa", sum := "d4106856cdee3b790ff96917e7ecc4107495fbc4ebe6a0f8b0ecc3f1ccdb4325", func := "loop.example/g00941/laws.FnExactReachableMarkings", spec := "fnExactReachableMarkings", unfollowed := true, recurses := true, apart := false }
def FnExactReachableMarkingsSaid : Prop := fnExactReachableMarkingsRow.holds Try.pinned (OpenSpec.ofChange fnExactReachableMarkingsSpec)

/-- ITS FALSE NEIGHBOUR: 'it returns false'. Refute it at one input. -/
def fnExactReachableMarkingsWrong : ChangeSpec := { name := "fnExactReachableMarkings", fn := fun _ => fun
  | [d] => { results := [.lit (.bool false)], args := [d] }
  | _ => none }
def FnExactReachableMarkingsWrongFalsely : Prop := fnExactReachableMarkingsRow.holds Try.pinned (OpenSpec.ofChange fnExactReachableMarkingsWrong)

/-- 'laws.FnExactFiringTimes': WHATEVER THE INPUT: true; the input reads as it did. -/
def fnExactFiringTimesSpec : ChangeSpec := { name := "fnExactFiringTimes", fn := fun _ => fun
  | [d1, d2] => { results := [.lit (.bool true)], args := [d1, d2] }
  | _ => none }
def fnExactFiringTimesRow : OpenClaim := { program := "ytepabjdilaegoaa", sum := "d4106856cdee3b790ff96917e7ecc4107495fbc4ebe6a0f8b0ecc3f1ccdb4325", func := "loop.example/g00941/laws.FnExactFiringTimes", spec := "fnExactFiringTimes", unfollowed := true, recurses := true, apart := false }
def FnExactFiringTimesSaid : Prop := fnExactFiringTimesRow.holds Try.pinned (OpenSpec.ofChange fnExactFiringTimesSpec)

/-- ITS FALSE NEIGHBOUR: 'it returns false'. Refute it at one input. -/
def fnExactFiringTimesWrong : ChangeSpec := { name := "fnExactFiringTimes", fn := fun _ => fun
  | [d1, d2] => { results := [.lit (.bool false)], args := [d1, d2] }
  | _ => none }
def FnExactFiringTimesWrongFalsely : Prop := fnExactFiringTimesRow.holds Try.pinned (OpenSpec.ofChange fnExactFiringTimesWrong)

/- THE SECOND FORM. 'bulk': how many values and letters a reading holds, each counted each time it is reached (what is shared counts as often as it is met; a slice's spare places count too). A statement '..UptoSaid' is the law's where the arguments, and the package variables that the reading takes, are together of bulk at most 1048576: NARROWER than '..Said'. Prove '..Said' where nothing that the law and all that it calls make is longer than what came in: it says more and counts as full. Else prove '..UptoSaid'. A law counts once. -/
mutual
def uptoBulk {H : Type} : DataW H → Nat
  | .lit (.string bytes) => bytes.length + 1
  | .lit _ => 1
  | .nil => 1
  | .ptr d => uptoBulk d + 1
  | .slice elems spare => uptoBulkAll elems + uptoBulkAll spare + 1
  | .agg parts => uptoBulkAll parts + 1
  | .iface _ d => uptoBulk d + 1
  | .map entries => uptoBulkEntries entries + 1
  | .held _ => 1
def uptoBulkAll {H : Type} : List (DataW H) → Nat
  | [] => 0
  | d :: r => uptoBulk d + uptoBulkAll r
def uptoBulkEntries {H : Type} : List (Lit × DataW H) → Nat
  | [] => 0
  | x :: r => uptoBulkEntry x + uptoBulkEntries r
def uptoBulkEntry {H : Type} : Lit × DataW H → Nat
  | (.string bytes, d) => bytes.length + uptoBulk d + 1
  | (_, d) => uptoBulk d + 1
 end
def uptoSmall : (H : Type) → List (DataW H) → Bool := fun _ ds => decide (uptoBulkAll ds ≤ 1048576)
def OpenSpec.upto (s : _root_.Go.ChangeSpec) : _root_.Go.OpenSpec := { _root_.Go.OpenSpec.ofChange s with cond := some uptoSmall }

/-- 'laws.FnExactJoinGraphs', WHERE WHAT IT READS IS OF BULK AT MOST 1048576: true; the input reads as it did. -/
def fnExactJoinGraphsUptoRow : OpenClaim := { program := "ytepabjdilaegoaa", sum := "d4106856cdee3b790ff96917e7ecc4107495fbc4ebe6a0f8b0ecc3f1ccdb4325", func := "loop.example/g00941/laws.FnExactJoinGraphs", spec := "fnExactJoinGraphs", unfollowed := true, recurses := true, apart := false, narrowed := true }
def FnExactJoinGraphsUptoSaid : Prop := fnExactJoinGraphsUptoRow.holds Try.pinned (OpenSpec.upto fnExactJoinGraphsSpec)

/-- 'laws.FnExactIsRun', WHERE WHAT IT READS IS OF BULK AT MOST 1048576: true; the input reads as it did. -/
def fnExactIsRunUptoRow : OpenClaim := { program := "ytepabjdilaegoaa", sum := "d4106856cdee3b790ff96917e7ecc4107495fbc4ebe6a0f8b0ecc3f1ccdb4325", func := "loop.example/g00941/laws.FnExactIsRun", spec := "fnExactIsRun", unfollowed := true, recurses := true, apart := false, narrowed := true }
def FnExactIsRunUptoSaid : Prop := fnExactIsRunUptoRow.holds Try.pinned (OpenSpec.upto fnExactIsRunSpec)

/-- 'laws.FnExactFiringOrder', WHERE WHAT IT READS IS OF BULK AT MOST 1048576: true; the input reads as it did. -/
def fnExactFiringOrderUptoRow : OpenClaim := { program := "ytepabjdilaegoaa", sum := "d4106856cdee3b790ff96917e7ecc4107495fbc4ebe6a0f8b0ecc3f1ccdb4325", func := "loop.example/g00941/laws.FnExactFiringOrder", spec := "fnExactFiringOrder", unfollowed := true, recurses := true, apart := false, narrowed := true }
def FnExactFiringOrderUptoSaid : Prop := fnExactFiringOrderUptoRow.holds Try.pinned (OpenSpec.upto fnExactFiringOrderSpec)

/-- 'laws.FnExactFiringTime', WHERE WHAT IT READS IS OF BULK AT MOST 1048576: true; the input reads as it did. -/
def fnExactFiringTimeUptoRow : OpenClaim := { program := "ytepabjdilaegoaa", sum := "d4106856cdee3b790ff96917e7ecc4107495fbc4ebe6a0f8b0ecc3f1ccdb4325", func := "loop.example/g00941/laws.FnExactFiringTime", spec := "fnExactFiringTime", unfollowed := true, recurses := true, apart := false, narrowed := true }
def FnExactFiringTimeUptoSaid : Prop := fnExactFiringTimeUptoRow.holds Try.pinned (OpenSpec.upto fnExactFiringTimeSpec)

/-- 'laws.FnExactLevelsOf', WHERE WHAT IT READS IS OF BULK AT MOST 1048576: true; the input reads as it did. -/
def fnExactLevelsOfUptoRow : OpenClaim := { program := "ytepabjdilaegoaa", sum := "d4106856cdee3b790ff96917e7ecc4107495fbc4ebe6a0f8b0ecc3f1ccdb4325", func := "loop.example/g00941/laws.FnExactLevelsOf", spec := "fnExactLevelsOf", unfollowed := true, recurses := true, apart := false, narrowed := true }
def FnExactLevelsOfUptoSaid : Prop := fnExactLevelsOfUptoRow.holds Try.pinned (OpenSpec.upto fnExactLevelsOfSpec)

/-- 'laws.FnExactFireSequence', WHERE WHAT IT READS IS OF BULK AT MOST 1048576: true; the input reads as it did. -/
def fnExactFireSequenceUptoRow : OpenClaim := { program := "ytepabjdilaegoaa", sum := "d4106856cdee3b790ff96917e7ecc4107495fbc4ebe6a0f8b0ecc3f1ccdb4325", func := "loop.example/g00941/laws.FnExactFireSequence", spec := "fnExactFireSequence", unfollowed := true, recurses := true, apart := false, narrowed := true }
def FnExactFireSequenceUptoSaid : Prop := fnExactFireSequenceUptoRow.holds Try.pinned (OpenSpec.upto fnExactFireSequenceSpec)

/-- 'laws.FnExactMarkingAfter', WHERE WHAT IT READS IS OF BULK AT MOST 1048576: true; the input reads as it did. -/
def fnExactMarkingAfterUptoRow : OpenClaim := { program := "ytepabjdilaegoaa", sum := "d4106856cdee3b790ff96917e7ecc4107495fbc4ebe6a0f8b0ecc3f1ccdb4325", func := "loop.example/g00941/laws.FnExactMarkingAfter", spec := "fnExactMarkingAfter", unfollowed := true, recurses := true, apart := false, narrowed := true }
def FnExactMarkingAfterUptoSaid : Prop := fnExactMarkingAfterUptoRow.holds Try.pinned (OpenSpec.upto fnExactMarkingAfterSpec)

/-- 'laws.FnExactSequenceFor', WHERE WHAT IT READS IS OF BULK AT MOST 1048576: true; the input reads as it did. -/
def fnExactSequenceForUptoRow : OpenClaim := { program := "ytepabjdilaegoaa", sum := "d4106856cdee3b790ff96917e7ecc4107495fbc4ebe6a0f8b0ecc3f1ccdb4325", func := "loop.example/g00941/laws.FnExactSequenceFor", spec := "fnExactSequenceFor", unfollowed := true, recurses := true, apart := false, narrowed := true }
def FnExactSequenceForUptoSaid : Prop := fnExactSequenceForUptoRow.holds Try.pinned (OpenSpec.upto fnExactSequenceForSpec)

/-- 'laws.FnExactNextEvents', WHERE WHAT IT READS IS OF BULK AT MOST 1048576: true; the input reads as it did. -/
def fnExactNextEventsUptoRow : OpenClaim := { program := "ytepabjdilaegoaa", sum := "d4106856cdee3b790ff96917e7ecc4107495fbc4ebe6a0f8b0ecc3f1ccdb4325", func := "loop.example/g00941/laws.FnExactNextEvents", spec := "fnExactNextEvents", unfollowed := true, recurses := true, apart := false, narrowed := true }
def FnExactNextEventsUptoSaid : Prop := fnExactNextEventsUptoRow.holds Try.pinned (OpenSpec.upto fnExactNextEventsSpec)

/-- 'laws.FnExactLatenessOf', WHERE WHAT IT READS IS OF BULK AT MOST 1048576: true; the input reads as it did. -/
def fnExactLatenessOfUptoRow : OpenClaim := { program := "ytepabjdilaegoaa", sum := "d4106856cdee3b790ff96917e7ecc4107495fbc4ebe6a0f8b0ecc3f1ccdb4325", func := "loop.example/g00941/laws.FnExactLatenessOf", spec := "fnExactLatenessOf", unfollowed := true, recurses := true, apart := false, narrowed := true }
def FnExactLatenessOfUptoSaid : Prop := fnExactLatenessOfUptoRow.holds Try.pinned (OpenSpec.upto fnExactLatenessOfSpec)

/-- 'laws.FnExactReachableMarkings', WHERE WHAT IT READS IS OF BULK AT MOST 1048576: true; the input reads as it did. -/
def fnExactReachableMarkingsUptoRow : OpenClaim := { program := "ytepabjdilaegoaa", sum := "d4106856cdee3b790ff96917e7ecc4107495fbc4ebe6a0f8b0ecc3f1ccdb4325", func := "loop.example/g00941/laws.FnExactReachableMarkings", spec := "fnExactReachableMarkings", unfollowed := true, recurses := true, apart := false, narrowed := true }
def FnExactReachableMarkingsUptoSaid : Prop := fnExactReachableMarkingsUptoRow.holds Try.pinned (OpenSpec.upto fnExactReachableMarkingsSpec)

/-- 'laws.FnExactFiringTimes', WHERE WHAT IT READS IS OF BULK AT MOST 1048576: true; the input reads as it did. -/
def fnExactFiringTimesUptoRow : OpenClaim := { program := "ytepabjdilaegoaa", sum := "d4106856cdee3b790ff96917e7ecc4107495fbc4ebe6a0f8b0ecc3f1ccdb4325", func := "loop.example/g00941/laws.FnExactFiringTimes", spec := "fnExactFiringTimes", unfollowed := true, recurses := true, apart := false, narrowed := true }
def FnExactFiringTimesUptoSaid : Prop := fnExactFiringTimesUptoRow.holds Try.pinned (OpenSpec.upto fnExactFiringTimesSpec)

end Rows
end Go.Proofs.Ytepabjdilaegoaa
