/-
  No cell of these rows narrows 'for every input' (looked for: loops, veiled, ifaces, maps, wideKeys, modest, calm, conditions, laid).
  DERIVED. THE GIVEN ROWS OF THIS SEAT. 7 by the template 'for every input the law returns true; each argument reads behind the call as it read before'; 0 by the template 'total and deterministic' (their statements: YtdhlhabkonfhfaaTotals.lean).
  GIVEN WITH THE SEED: the statements are not yours to turn. If you find one false, say at which input.
  Laid BY PROGRAM, IN A SANDBOX (cutbox-rows.mjs): the forced cells as the released guide's own fill.sh prints them over the translation 5eeb86ea52746164… (all of the seat's roots in one cut). By AI agents, Wed Nov 11 2026. No macro, syntax, notation, axiom, sorry.
-/
import Derived.Test.YtdhlhabkonfhfaaChecked
import GoSem.Claim
import GoSem.ClaimJoined
import GoSem.ClaimMapViews
import Derived.JoinedTies
import Derived.KernelRfl
namespace Go.Proofs.Ytdhlhabkonfhfaa
/- THE CELL 'sum', in the pinned program and in every row, IS THE sha256 OF THE DUMP (.gsa) THAT YtdhlhabkonfhfaaProg.lean LOADS. Nothing in Lean hashes anything: it is a label: what it is worth is what the hold of that sum in a sandbox is worth. -/
noncomputable def Try.pinned : Pinned := { name := "ytdhlhabkonfhfaa", sum := "5eeb86ea52746164bc8fde75a19708ecb4a6473fae349b27cf90f91fd0f22c42", checked := Try.checked }
namespace Rows
def none {H : Type} : Left H := { results := [], args := [] }

/-- 'laws.FnExactIsEventName': WHATEVER THE INPUT: true; the input reads as it did. -/
def fnExactIsEventNameSpec : ChangeSpec := { name := "fnExactIsEventName", fn := fun _ => fun
  | [d] => { results := [.lit (.bool true)], args := [d] }
  | _ => none }
def fnExactIsEventNameRow : OpenClaim := { program := "ytdhlhabkonfhfaa", sum := "5eeb86ea52746164bc8fde75a19708ecb4a6473fae349b27cf90f91fd0f22c42", func := "loop.example/g00941/laws.FnExactIsEventName", spec := "fnExactIsEventName", apart := false }
def FnExactIsEventNameSaid : Prop := fnExactIsEventNameRow.holds Try.pinned (OpenSpec.ofChange fnExactIsEventNameSpec)

/-- ITS FALSE NEIGHBOUR: 'it returns false'. Refute it at one input. -/
def fnExactIsEventNameWrong : ChangeSpec := { name := "fnExactIsEventName", fn := fun _ => fun
  | [d] => { results := [.lit (.bool false)], args := [d] }
  | _ => none }
def FnExactIsEventNameWrongFalsely : Prop := fnExactIsEventNameRow.holds Try.pinned (OpenSpec.ofChange fnExactIsEventNameWrong)

/-- 'laws.FnExactEventNamed': WHATEVER THE INPUT: true; the input reads as it did. -/
def fnExactEventNamedSpec : ChangeSpec := { name := "fnExactEventNamed", fn := fun _ => fun
  | [d1, d2] => { results := [.lit (.bool true)], args := [d1, d2] }
  | _ => none }
def fnExactEventNamedRow : OpenClaim := { program := "ytdhlhabkonfhfaa", sum := "5eeb86ea52746164bc8fde75a19708ecb4a6473fae349b27cf90f91fd0f22c42", func := "loop.example/g00941/laws.FnExactEventNamed", spec := "fnExactEventNamed", apart := false }
def FnExactEventNamedSaid : Prop := fnExactEventNamedRow.holds Try.pinned (OpenSpec.ofChange fnExactEventNamedSpec)

/-- ITS FALSE NEIGHBOUR: 'it returns false'. Refute it at one input. -/
def fnExactEventNamedWrong : ChangeSpec := { name := "fnExactEventNamed", fn := fun _ => fun
  | [d1, d2] => { results := [.lit (.bool false)], args := [d1, d2] }
  | _ => none }
def FnExactEventNamedWrongFalsely : Prop := fnExactEventNamedRow.holds Try.pinned (OpenSpec.ofChange fnExactEventNamedWrong)

/-- 'laws.FnExactTimesIn': WHATEVER THE INPUT: true; the input reads as it did. -/
def fnExactTimesInSpec : ChangeSpec := { name := "fnExactTimesIn", fn := fun _ => fun
  | [d1, d2] => { results := [.lit (.bool true)], args := [d1, d2] }
  | _ => none }
def fnExactTimesInRow : OpenClaim := { program := "ytdhlhabkonfhfaa", sum := "5eeb86ea52746164bc8fde75a19708ecb4a6473fae349b27cf90f91fd0f22c42", func := "loop.example/g00941/laws.FnExactTimesIn", spec := "fnExactTimesIn", apart := false }
def FnExactTimesInSaid : Prop := fnExactTimesInRow.holds Try.pinned (OpenSpec.ofChange fnExactTimesInSpec)

/-- ITS FALSE NEIGHBOUR: 'it returns false'. Refute it at one input. -/
def fnExactTimesInWrong : ChangeSpec := { name := "fnExactTimesIn", fn := fun _ => fun
  | [d1, d2] => { results := [.lit (.bool false)], args := [d1, d2] }
  | _ => none }
def FnExactTimesInWrongFalsely : Prop := fnExactTimesInRow.holds Try.pinned (OpenSpec.ofChange fnExactTimesInWrong)

/-- 'laws.FnExactIsMarking': WHATEVER THE INPUT: true; the input reads as it did. -/
def fnExactIsMarkingSpec : ChangeSpec := { name := "fnExactIsMarking", fn := fun _ => fun
  | [d1, d2] => { results := [.lit (.bool true)], args := [d1, d2] }
  | _ => none }
def fnExactIsMarkingRow : OpenClaim := { program := "ytdhlhabkonfhfaa", sum := "5eeb86ea52746164bc8fde75a19708ecb4a6473fae349b27cf90f91fd0f22c42", func := "loop.example/g00941/laws.FnExactIsMarking", spec := "fnExactIsMarking", unfollowed := true, recurses := true, apart := false }
def FnExactIsMarkingSaid : Prop := fnExactIsMarkingRow.holds Try.pinned (OpenSpec.ofChange fnExactIsMarkingSpec)

/-- ITS FALSE NEIGHBOUR: 'it returns false'. Refute it at one input. -/
def fnExactIsMarkingWrong : ChangeSpec := { name := "fnExactIsMarking", fn := fun _ => fun
  | [d1, d2] => { results := [.lit (.bool false)], args := [d1, d2] }
  | _ => none }
def FnExactIsMarkingWrongFalsely : Prop := fnExactIsMarkingRow.holds Try.pinned (OpenSpec.ofChange fnExactIsMarkingWrong)

/-- 'laws.FnExactRoomsOf': WHATEVER THE INPUT: true; the input reads as it did. -/
def fnExactRoomsOfSpec : ChangeSpec := { name := "fnExactRoomsOf", fn := fun _ => fun
  | [d1, d2] => { results := [.lit (.bool true)], args := [d1, d2] }
  | _ => none }
def fnExactRoomsOfRow : OpenClaim := { program := "ytdhlhabkonfhfaa", sum := "5eeb86ea52746164bc8fde75a19708ecb4a6473fae349b27cf90f91fd0f22c42", func := "loop.example/g00941/laws.FnExactRoomsOf", spec := "fnExactRoomsOf", unfollowed := true, recurses := true, apart := false }
def FnExactRoomsOfSaid : Prop := fnExactRoomsOfRow.holds Try.pinned (OpenSpec.ofChange fnExactRoomsOfSpec)

/-- ITS FALSE NEIGHBOUR: 'it returns false'. Refute it at one input. -/
def fnExactRoomsOfWrong : ChangeSpec := { name := "fnExactRoomsOf", fn := fun _ => fun
  | [d1, d2] => { results := [.lit (.bool false)], args := [d1, d2] }
  | _ => none }
def FnExactRoomsOfWrongFalsely : Prop := fnExactRoomsOfRow.holds Try.pinned (OpenSpec.ofChange fnExactRoomsOfWrong)

/-- 'laws.FnExactReverseGraph': WHATEVER THE INPUT: true; the input reads as it did. -/
def fnExactReverseGraphSpec : ChangeSpec := { name := "fnExactReverseGraph", fn := fun _ => fun
  | [d] => { results := [.lit (.bool true)], args := [d] }
  | _ => none }
def fnExactReverseGraphRow : OpenClaim := { program := "ytdhlhabkonfhfaa", sum := "5eeb86ea52746164bc8fde75a19708ecb4a6473fae349b27cf90f91fd0f22c42", func := "loop.example/g00941/laws.FnExactReverseGraph", spec := "fnExactReverseGraph", unfollowed := true, recurses := true, apart := false }
def FnExactReverseGraphSaid : Prop := fnExactReverseGraphRow.holds Try.pinned (OpenSpec.ofChange fnExactReverseGraphSpec)

/-- ITS FALSE NEIGHBOUR: 'it returns false'. Refute it at one input. -/
def fnExactReverseGraphWrong : ChangeSpec := { name := "fnExactReverseGraph", fn := fun _ => fun
  | [d] => { results := [.lit (.bool false)], args := [d] }
  | _ => none }
def FnExactReverseGraphWrongFalsely : Prop := fnExactReverseGraphRow.holds Try.pinned (OpenSpec.ofChange fnExactReverseGraphWrong)

/-- 'laws.FnExactIsCircuit': WHATEVER THE INPUT: true; the input reads as it did. -/
def fnExactIsCircuitSpec : ChangeSpec := { name := "fnExactIsCircuit", fn := fun _ => fun
  | [d1, d2] => { results := [.lit (.bool true)], args := [d1, d2] }
  | _ => none }
def fnExactIsCircuitRow : OpenClaim := { program := "ytdhlhabkonfhfaa", sum := "5eeb86ea52746164bc8fde75a19708ecb4a6473fae349b27cf90f91fd0f22c42", func := "loop.example/g00941/laws.FnExactIsCircuit", spec := "fnExactIsCircuit", unfollowed := true, recurses := true, apart := false }
def FnExactIsCircuitSaid : Prop := fnExactIsCircuitRow.holds Try.pinned (OpenSpec.ofChange fnExactIsCircuitSpec)

/-- ITS FALSE NEIGHBOUR: 'it returns false'. Refute it at one input. -/
def fnExactIsCircuitWrong : ChangeSpec := { name := "fnExactIsCircuit", fn := fun _ => fun
  | [d1, d2] => { results := [.lit (.bool false)], args := [d1, d2] }
  | _ => none }
def FnExactIsCircuitWrongFalsely : Prop := fnExactIsCircuitRow.holds Try.pinned (OpenSpec.ofChange fnExactIsCircuitWrong)

/- THE SECOND FORM. 'bulk': how many values and letters a reading holds, each counted each time it is reached (what is shared counts as often as it is met; a slice's spare places count too). A statement '..UptoSaid' is the law's where the arguments, and the package variables that the reading takes, are together of bulk at most 1048576: NARROWER than '..Said'. Prove '..Said' where nothing that the law and all that it calls make is longer than what came in: it says more and counts as full. Else prove '..UptoSaid'. A law counts once. -/
mutual
def uptoBulk {H : Type} : DataW H → Nat
  | .lit (.string bytes) => bytes.length + 1
  | .lit _ => 1
  | .nil => 1
  | .ptr d => uptoBulk d + 1
  | .slice elems spare => uptoBulkAll elems + uptoBulkAll spare + 1
  | .agg parts => uptoBulkAll parts + 1
  | .iface _ d => uptoBulk d + 1
  | .map entries => uptoBulkEntries entries + 1
  | .held _ => 1
def uptoBulkAll {H : Type} : List (DataW H) → Nat
  | [] => 0
  | d :: r => uptoBulk d + uptoBulkAll r
def uptoBulkEntries {H : Type} : List (Lit × DataW H) → Nat
  | [] => 0
  | x :: r => uptoBulkEntry x + uptoBulkEntries r
def uptoBulkEntry {H : Type} : Lit × DataW H → Nat
  | (.string bytes, d) => bytes.length + uptoBulk d + 1
  | (_, d) => uptoBulk d + 1
 end
def uptoSmall : (H : Type) → List (DataW H) → Bool := fun _ ds => decide (uptoBulkAll ds ≤ 1048576)
def OpenSpec.upto (s : _root_.Go.ChangeSpec) : _root_.Go.OpenSpec := { _root_.Go.OpenSpec.ofChange s with cond := some uptoSmall }

/-- 'laws.FnExactIsEventName', WHERE WHAT IT READS IS OF BULK AT MOST 1048576: true; the input reads as it did. -/
def fnExactIsEventNameUptoRow : OpenClaim := { program := "ytdhlhabkonfhfaa", sum := "5eeb86ea52746164bc8fde75a19708ecb4a6473fae349b27cf90f91fd0f22c42", func := "loop.example/g00941/laws.FnExactIsEventName", spec := "fnExactIsEventName", apart := false, narrowed := true }
def FnExactIsEventNameUptoSaid : Prop := fnExactIsEventNameUptoRow.holds Try.pinned (OpenSpec.upto fnExactIsEventNameSpec)

/-- 'laws.FnExactEventNamed', WHERE WHAT IT READS IS OF BULK AT MOST 1048576: true; the input reads as it did. -/
def fnExactEventNamedUptoRow : OpenClaim := { program := "ytdhlhabkonfhfaa", sum := "5eeb86ea52746164bc8fde75a19708ecb4a6473fae349b27cf90f91fd0f22c42", func := "loop.example/g00941/laws.FnExactEventNamed", spec := "fnExactEventNamed", apart := false, narrowed := true }
def FnExactEventNamedUptoSaid : Prop := fnExactEventNamedUptoRow.holds Try.pinned (OpenSpec.upto fnExactEventNamedSpec)

/-- 'laws.FnExactTimesIn', WHERE WHAT IT READS IS OF BULK AT MOST 1048576: true; the input reads as it did. -/
def fnExactTimesInUptoRow : OpenClaim := { program := "ytdhlhabkonfhfaa", sum := "5eeb86ea52746164bc8fde75a19708ecb4a6473fae349b27cf90f91fd0f22c42", func := "loop.example/g00941/laws.FnExactTimesIn", spec := "fnExactTimesIn", apart := false, narrowed := true }
def FnExactTimesInUptoSaid : Prop := fnExactTimesInUptoRow.holds Try.pinned (OpenSpec.upto fnExactTimesInSpec)

/-- 'laws.FnExactIsMarking', WHERE WHAT IT READS IS OF BULK AT MOST 1048576: true; the input reads as it did. -/
def fnExactIsMarkingUptoRow : OpenClaim := { program := "ytdhlhabkonfhfaa", sum := "5eeb86ea52746164bc8fde75a19708ecb4a6473fae349b27cf90f91fd0f22c42", func := "loop.example/g00941/laws.FnExactIsMarking", spec := "fnExactIsMarking", unfollowed := true, recurses := true, apart := false, narrowed := true }
def FnExactIsMarkingUptoSaid : Prop := fnExactIsMarkingUptoRow.holds Try.pinned (OpenSpec.upto fnExactIsMarkingSpec)

/-- 'laws.FnExactRoomsOf', WHERE WHAT IT READS IS OF BULK AT MOST 1048576: true; the input reads as it did. -/
def fnExactRoomsOfUptoRow : OpenClaim := { program := "ytdhlhabkonfhfaa", sum := "5eeb86ea52746164bc8fde75a19708ecb4a6473fae349b27cf90f91fd0f22c42", func := "loop.example/g00941/laws.FnExactRoomsOf", spec := "fnExactRoomsOf", unfollowed := true, recurses := true, apart := false, narrowed := true }
def FnExactRoomsOfUptoSaid : Prop := fnExactRoomsOfUptoRow.holds Try.pinned (OpenSpec.upto fnExactRoomsOfSpec)

/-- 'laws.FnExactReverseGraph', WHERE WHAT IT READS IS OF BULK AT MOST 1048576: true; the input reads as it did. -/
def fnExactReverseGraphUptoRow : OpenClaim := { program := "ytdhlhabkonfhfaa", sum := "5eeb86ea52746164bc8fde75a19708ecb4a6473fae349b27cf90f91fd0f22c42", func := "loop.example/g00941/laws.FnExactReverseGraph", spec := "fnExactReverseGraph", unfollowed := true, recurses := true, apart := false, narrowed := true }
def FnExactReverseGraphUptoSaid : Prop := fnExactReverseGraphUptoRow.holds Try.pinned (OpenSpec.upto fnExactReverseGraphSpec)

/-- 'laws.FnExactIsCircuit', WHERE WHAT IT READS IS OF BULK AT MOST 1048576: true; the input reads as it did. -/
def fnExactIsCircuitUptoRow : OpenClaim := { program := "ytdhlhabkonfhfaa", sum := "5eeb86ea52746164bc8fde75a19708ecb4a6473fae349b27cf90f91fd0f22c42", func := "loop.example/g00941/laws.FnExactIsCircuit", spec := "fnExactIsCircuit", unfollowed := true, recurses := true, apart := false, narrowed := true }
def FnExactIsCircuitUptoSaid : Prop := fnExactIsCircuitUptoRow.holds Try.pinned (OpenSpec.upto fnExactIsCircuitSpec)

end Rows
end Go.Proofs.Ytdhlhabkonfhfaa
