/-
  No cell of these rows narrows 'for every input' (looked for: loops, veiled, ifaces, maps, wideKeys, modest, calm, conditions, laid).
  DERIVED. THE GIVEN ROWS OF THIS SEAT. 4 by the template 'for every input the law returns true; each argument reads behind the call as it read before'; 0 by the template 'total and deterministic' (their statements: YtcdgckcihkmpeaaTotals.lean).
  GIVEN WITH THE SEED: the statements are not yours to turn. If you find one false, say at which input.
  Laid BY PROGRAM, IN A SANDBOX (cutbox-rows.mjs): the forced cells as the released guide's own fill.sh prints them over the translation e8dc8d33f4601adb… (all of the seat's roots in one cut). By AI agents, Wed Nov 11 2026. No macro, syntax, notation, axiom, sorry.
-/
import Derived.Test.YtcdgckcihkmpeaaChecked
import GoSem.Claim
import GoSem.ClaimJoined
import GoSem.ClaimMapViews
import Derived.JoinedTies
import Derived.KernelRfl
namespace Go.Proofs.Ytcdgckcihkmpeaa
/- THE CELL 'sum', in the pinned program and in every row, IS THE sha256 OF THE DUMP (.gsa) THAT YtcdgckcihkmpeaaProg.lean LOADS. Nothing in Lean hashes anything: it is a label: what it is worth is what the hold of that sum in a sandbox is worth. -/
noncomputable def Try.pinned : Pinned := { name := "ytcdgckcihkmpeaa", sum := "e8dc8d33f4601adba771651882a87cce26fc4e101dc96dc6fb4919c34e45e7d8", checked := Try.checked }
namespace Rows
def none {H : Type} : Left H := { results := [], args := [] }

/-- 'laws.FnExactHoldingOf': WHATEVER THE INPUT: true; the input reads as it did. -/
def fnExactHoldingOfSpec : ChangeSpec := { name := "fnExactHoldingOf", fn := fun _ => fun
  | [d1, d2] => { results := [.lit (.bool true)], args := [d1, d2] }
  | _ => none }
def fnExactHoldingOfRow : OpenClaim := { program := "ytcdgckcihkmpeaa", sum := "e8dc8d33f4601adba771651882a87cce26fc4e101dc96dc6fb4919c34e45e7d8", func := "loop.example/g00941/laws.FnExactHoldingOf", spec := "fnExactHoldingOf", unfollowed := true, recurses := true, apart := false }
def FnExactHoldingOfSaid : Prop := fnExactHoldingOfRow.holds Try.pinned (OpenSpec.ofChange fnExactHoldingOfSpec)

/-- ITS FALSE NEIGHBOUR: 'it returns false'. Refute it at one input. -/
def fnExactHoldingOfWrong : ChangeSpec := { name := "fnExactHoldingOf", fn := fun _ => fun
  | [d1, d2] => { results := [.lit (.bool false)], args := [d1, d2] }
  | _ => none }
def FnExactHoldingOfWrongFalsely : Prop := fnExactHoldingOfRow.holds Try.pinned (OpenSpec.ofChange fnExactHoldingOfWrong)

/-- 'laws.FnExactIsFiringTable': WHATEVER THE INPUT: true; the input reads as it did. -/
def fnExactIsFiringTableSpec : ChangeSpec := { name := "fnExactIsFiringTable", fn := fun _ => fun
  | [d1, d2] => { results := [.lit (.bool true)], args := [d1, d2] }
  | _ => none }
def fnExactIsFiringTableRow : OpenClaim := { program := "ytcdgckcihkmpeaa", sum := "e8dc8d33f4601adba771651882a87cce26fc4e101dc96dc6fb4919c34e45e7d8", func := "loop.example/g00941/laws.FnExactIsFiringTable", spec := "fnExactIsFiringTable", unfollowed := true, recurses := true, apart := false }
def FnExactIsFiringTableSaid : Prop := fnExactIsFiringTableRow.holds Try.pinned (OpenSpec.ofChange fnExactIsFiringTableSpec)

/-- ITS FALSE NEIGHBOUR: 'it returns false'. Refute it at one input. -/
def fnExactIsFiringTableWrong : ChangeSpec := { name := "fnExactIsFiringTable", fn := fun _ => fun
  | [d1, d2] => { results := [.lit (.bool false)], args := [d1, d2] }
  | _ => none }
def FnExactIsFiringTableWrongFalsely : Prop := fnExactIsFiringTableRow.holds Try.pinned (OpenSpec.ofChange fnExactIsFiringTableWrong)

/-- 'laws.FnExactSimulateGraph': WHATEVER THE INPUT: true; the input reads as it did. -/
def fnExactSimulateGraphSpec : ChangeSpec := { name := "fnExactSimulateGraph", fn := fun _ => fun
  | [d1, d2] => { results := [.lit (.bool true)], args := [d1, d2] }
  | _ => none }
def fnExactSimulateGraphRow : OpenClaim := { program := "ytcdgckcihkmpeaa", sum := "e8dc8d33f4601adba771651882a87cce26fc4e101dc96dc6fb4919c34e45e7d8", func := "loop.example/g00941/laws.FnExactSimulateGraph", spec := "fnExactSimulateGraph", unfollowed := true, recurses := true, apart := false }
def FnExactSimulateGraphSaid : Prop := fnExactSimulateGraphRow.holds Try.pinned (OpenSpec.ofChange fnExactSimulateGraphSpec)

/-- ITS FALSE NEIGHBOUR: 'it returns false'. Refute it at one input. -/
def fnExactSimulateGraphWrong : ChangeSpec := { name := "fnExactSimulateGraph", fn := fun _ => fun
  | [d1, d2] => { results := [.lit (.bool false)], args := [d1, d2] }
  | _ => none }
def FnExactSimulateGraphWrongFalsely : Prop := fnExactSimulateGraphRow.holds Try.pinned (OpenSpec.ofChange fnExactSimulateGraphWrong)

/-- 'laws.FnExactStartedTimes': WHATEVER THE INPUT: true; the input reads as it did. -/
def fnExactStartedTimesSpec : ChangeSpec := { name := "fnExactStartedTimes", fn := fun _ => fun
  | [d1, d2, d3] => { results := [.lit (.bool true)], args := [d1, d2, d3] }
  | _ => none }
def fnExactStartedTimesRow : OpenClaim := { program := "ytcdgckcihkmpeaa", sum := "e8dc8d33f4601adba771651882a87cce26fc4e101dc96dc6fb4919c34e45e7d8", func := "loop.example/g00941/laws.FnExactStartedTimes", spec := "fnExactStartedTimes", unfollowed := true, recurses := true, apart := false }
def FnExactStartedTimesSaid : Prop := fnExactStartedTimesRow.holds Try.pinned (OpenSpec.ofChange fnExactStartedTimesSpec)

/-- ITS FALSE NEIGHBOUR: 'it returns false'. Refute it at one input. -/
def fnExactStartedTimesWrong : ChangeSpec := { name := "fnExactStartedTimes", fn := fun _ => fun
  | [d1, d2, d3] => { results := [.lit (.bool false)], args := [d1, d2, d3] }
  | _ => none }
def FnExactStartedTimesWrongFalsely : Prop := fnExactStartedTimesRow.holds Try.pinned (OpenSpec.ofChange fnExactStartedTimesWrong)

/- THE SECOND FORM. 'bulk': how many values and letters a reading holds, each counted each time it is reached (what is shared counts as often as it is met; a slice's spare places count too). A statement '..UptoSaid' is the law's where the arguments, and the package variables that the reading takes, are together of bulk at most 1048576: NARROWER than '..Said'. Prove '..Said' where nothing that the law and all that it calls make is longer than what came in: it says more and counts as full. Else prove '..UptoSaid'. A law counts once. -/
mutual
def uptoBulk {H : Type} : DataW H → Nat
  | .lit (.string bytes) => bytes.length + 1
  | .lit _ => 1
  | .nil => 1
  | .ptr d => uptoBulk d + 1
  | .slice elems spare => uptoBulkAll elems + uptoBulkAll spare + 1
  | .agg parts => uptoBulkAll parts + 1
  | .iface _ d => uptoBulk d + 1
  | .map entries => uptoBulkEntries entries + 1
  | .held _ => 1
def uptoBulkAll {H : Type} : List (DataW H) → Nat
  | [] => 0
  | d :: r => uptoBulk d + uptoBulkAll r
def uptoBulkEntries {H : Type} : List (Lit × DataW H) → Nat
  | [] => 0
  | x :: r => uptoBulkEntry x + uptoBulkEntries r
def uptoBulkEntry {H : Type} : Lit × DataW H → Nat
  | (.string bytes, d) => bytes.length + uptoBulk d + 1
  | (_, d) => uptoBulk d + 1
 end
def uptoSmall : (H : Type) → List (DataW H) → Bool := fun _ ds => decide (uptoBulkAll ds ≤ 1048576)
def OpenSpec.upto (s : _root_.Go.ChangeSpec) : _root_.Go.OpenSpec := { _root_.Go.OpenSpec.ofChange s with cond := some uptoSmall }

/-- 'laws.FnExactHoldingOf', WHERE WHAT IT READS IS OF BULK AT MOST 1048576: true; the input reads as it did. -/
def fnExactHoldingOfUptoRow : OpenClaim := { program := "ytcdgckcihkmpeaa", sum := "e8dc8d33f4601adba771651882a87cce26fc4e101dc96dc6fb4919c34e45e7d8", func := "loop.example/g00941/laws.FnExactHoldingOf", spec := "fnExactHoldingOf", unfollowed := true, recurses := true, apart := false, narrowed := true }
def FnExactHoldingOfUptoSaid : Prop := fnExactHoldingOfUptoRow.holds Try.pinned (OpenSpec.upto fnExactHoldingOfSpec)

/-- 'laws.FnExactIsFiringTable', WHERE WHAT IT READS IS OF BULK AT MOST 1048576: true; the input reads as it did. -/
def fnExactIsFiringTableUptoRow : OpenClaim := { program := "ytcdgckcihkmpeaa", sum := "e8dc8d33f4601adba771651882a87cce26fc4e101dc96dc6fb4919c34e45e7d8", func := "loop.example/g00941/laws.FnExactIsFiringTable", spec := "fnExactIsFiringTable", unfollowed := true, recurses := true, apart := false, narrowed := true }
def FnExactIsFiringTableUptoSaid : Prop := fnExactIsFiringTableUptoRow.holds Try.pinned (OpenSpec.upto fnExactIsFiringTableSpec)

/-- 'laws.FnExactSimulateGraph', WHERE WHAT IT READS IS OF BULK AT MOST 1048576: true; the input reads as it did. -/
def fnExactSimulateGraphUptoRow : OpenClaim := { program := "ytcdgckcihkmpeaa", sum := "e8dc8d33f4601adba771651882a87cce26fc4e101dc96dc6fb4919c34e45e7d8", func := "loop.example/g00941/laws.FnExactSimulateGraph", spec := "fnExactSimulateGraph", unfollowed := true, recurses := true, apart := false, narrowed := true }
def FnExactSimulateGraphUptoSaid : Prop := fnExactSimulateGraphUptoRow.holds Try.pinned (OpenSpec.upto fnExactSimulateGraphSpec)

/-- 'laws.FnExactStartedTimes', WHERE WHAT IT READS IS OF BULK AT MOST 1048576: true; the input reads as it did. -/
def fnExactStartedTimesUptoRow : OpenClaim := { program := "ytcdgckcihkmpeaa", sum := "e8dc8d33f4601adba771651882a87cce26fc4e101dc96dc6fb4919c34e45e7d8", func := "loop.example/g00941/laws.FnExactStartedTimes", spec := "fnExactStartedTimes", unfollowed := true, recurses := true, apart := false, narrowed := true }
def FnExactStartedTimesUptoSaid : Prop := fnExactStartedTimesUptoRow.holds Try.pinned (OpenSpec.upto fnExactStartedTimesSpec)

end Rows
end Go.Proofs.Ytcdgckcihkmpeaa
