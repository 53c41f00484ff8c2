/-
  No cell of these rows narrows 'for every input' (looked for: loops, veiled, ifaces, maps, wideKeys, modest, calm, conditions, laid).
  DERIVED. THE GIVEN ROWS OF THIS SEAT. 5 by the template 'for every input the law returns true; each argument reads behind the call as it read before'; 0 by the template 'total and deterministic' (their statements: YtflhkmdipijkcaaTotals.lean).
  GIVEN WITH THE SEED: the statements are not yours to turn. If you find one false, say at which input.
  Laid BY PROGRAM, IN A SANDBOX (cutbox-rows.mjs): the forced cells as the released guide's own fill.sh prints them over the translation 625c8c19b1e6e73c… (all of the seat's roots in one cut). By AI agents, Wed Nov 11 2026. No macro, syntax, notation, axiom, sorry.
-/
import Derived.Test.YtflhkmdipijkcaaChecked
import GoSem.Claim
import GoSem.ClaimJoined
import GoSem.ClaimMapViews
import Derived.JoinedTies
import Derived.KernelRfl
namespace Go.Proofs.Ytflhkmdipijkcaa
/- THE CELL 'sum', in the pinned program and in every row, IS THE sha256 OF THE DUMP (.gsa) THAT YtflhkmdipijkcaaProg.lean LOADS. Nothing in Lean hashes anything: it is a label: what it is worth is what the hold of that sum in a sandbox is worth. -/
noncomputable def Try.pinned : Pinned := { name := "ytflhkmdipijkcaa", sum := "625c8c19b1e6e73c47635369a12170f5f841d69c1139c576e54a9f7832c802bd", checked := Try.checked }
namespace Rows
def none {H : Type} : Left H := { results := [], args := [] }

/-- 'laws.FnExactCircuitTokens': WHATEVER THE INPUT: true; the input reads as it did. -/
def fnExactCircuitTokensSpec : ChangeSpec := { name := "fnExactCircuitTokens", fn := fun _ => fun
  | [d1, d2, d3] => { results := [.lit (.bool true)], args := [d1, d2, d3] }
  | _ => none }
def fnExactCircuitTokensRow : OpenClaim := { program := "ytflhkmdipijkcaa", sum := "625c8c19b1e6e73c47635369a12170f5f841d69c1139c576e54a9f7832c802bd", func := "loop.example/g00941/laws.FnExactCircuitTokens", spec := "fnExactCircuitTokens", unfollowed := true, recurses := true, apart := false }
def FnExactCircuitTokensSaid : Prop := fnExactCircuitTokensRow.holds Try.pinned (OpenSpec.ofChange fnExactCircuitTokensSpec)

/-- ITS FALSE NEIGHBOUR: 'it returns false'. Refute it at one input. -/
def fnExactCircuitTokensWrong : ChangeSpec := { name := "fnExactCircuitTokens", fn := fun _ => fun
  | [d1, d2, d3] => { results := [.lit (.bool false)], args := [d1, d2, d3] }
  | _ => none }
def FnExactCircuitTokensWrongFalsely : Prop := fnExactCircuitTokensRow.holds Try.pinned (OpenSpec.ofChange fnExactCircuitTokensWrong)

/-- 'laws.FnExactStretchGraph': WHATEVER THE INPUT: true; the input reads as it did. -/
def fnExactStretchGraphSpec : ChangeSpec := { name := "fnExactStretchGraph", fn := fun _ => fun
  | [d1, d2] => { results := [.lit (.bool true)], args := [d1, d2] }
  | _ => none }
def fnExactStretchGraphRow : OpenClaim := { program := "ytflhkmdipijkcaa", sum := "625c8c19b1e6e73c47635369a12170f5f841d69c1139c576e54a9f7832c802bd", func := "loop.example/g00941/laws.FnExactStretchGraph", spec := "fnExactStretchGraph", unfollowed := true, recurses := true, apart := false }
def FnExactStretchGraphSaid : Prop := fnExactStretchGraphRow.holds Try.pinned (OpenSpec.ofChange fnExactStretchGraphSpec)

/-- ITS FALSE NEIGHBOUR: 'it returns false'. Refute it at one input. -/
def fnExactStretchGraphWrong : ChangeSpec := { name := "fnExactStretchGraph", fn := fun _ => fun
  | [d1, d2] => { results := [.lit (.bool false)], args := [d1, d2] }
  | _ => none }
def FnExactStretchGraphWrongFalsely : Prop := fnExactStretchGraphRow.holds Try.pinned (OpenSpec.ofChange fnExactStretchGraphWrong)

/-- 'laws.FnExactLimitPlace': WHATEVER THE INPUT: true; the input reads as it did. -/
def fnExactLimitPlaceSpec : ChangeSpec := { name := "fnExactLimitPlace", fn := fun _ => fun
  | [d1, d2, d3] => { results := [.lit (.bool true)], args := [d1, d2, d3] }
  | _ => none }
def fnExactLimitPlaceRow : OpenClaim := { program := "ytflhkmdipijkcaa", sum := "625c8c19b1e6e73c47635369a12170f5f841d69c1139c576e54a9f7832c802bd", func := "loop.example/g00941/laws.FnExactLimitPlace", spec := "fnExactLimitPlace", unfollowed := true, recurses := true, apart := false }
def FnExactLimitPlaceSaid : Prop := fnExactLimitPlaceRow.holds Try.pinned (OpenSpec.ofChange fnExactLimitPlaceSpec)

/-- ITS FALSE NEIGHBOUR: 'it returns false'. Refute it at one input. -/
def fnExactLimitPlaceWrong : ChangeSpec := { name := "fnExactLimitPlace", fn := fun _ => fun
  | [d1, d2, d3] => { results := [.lit (.bool false)], args := [d1, d2, d3] }
  | _ => none }
def FnExactLimitPlaceWrongFalsely : Prop := fnExactLimitPlaceRow.holds Try.pinned (OpenSpec.ofChange fnExactLimitPlaceWrong)

/-- 'laws.FnExactFireEvent': WHATEVER THE INPUT: true; the input reads as it did. -/
def fnExactFireEventSpec : ChangeSpec := { name := "fnExactFireEvent", fn := fun _ => fun
  | [d1, d2, d3] => { results := [.lit (.bool true)], args := [d1, d2, d3] }
  | _ => none }
def fnExactFireEventRow : OpenClaim := { program := "ytflhkmdipijkcaa", sum := "625c8c19b1e6e73c47635369a12170f5f841d69c1139c576e54a9f7832c802bd", func := "loop.example/g00941/laws.FnExactFireEvent", spec := "fnExactFireEvent", unfollowed := true, recurses := true, apart := false }
def FnExactFireEventSaid : Prop := fnExactFireEventRow.holds Try.pinned (OpenSpec.ofChange fnExactFireEventSpec)

/-- ITS FALSE NEIGHBOUR: 'it returns false'. Refute it at one input. -/
def fnExactFireEventWrong : ChangeSpec := { name := "fnExactFireEvent", fn := fun _ => fun
  | [d1, d2, d3] => { results := [.lit (.bool false)], args := [d1, d2, d3] }
  | _ => none }
def FnExactFireEventWrongFalsely : Prop := fnExactFireEventRow.holds Try.pinned (OpenSpec.ofChange fnExactFireEventWrong)

/-- 'laws.FnExactCircuitRatio': WHATEVER THE INPUT: true; the input reads as it did. -/
def fnExactCircuitRatioSpec : ChangeSpec := { name := "fnExactCircuitRatio", fn := fun _ => fun
  | [d1, d2] => { results := [.lit (.bool true)], args := [d1, d2] }
  | _ => none }
def fnExactCircuitRatioRow : OpenClaim := { program := "ytflhkmdipijkcaa", sum := "625c8c19b1e6e73c47635369a12170f5f841d69c1139c576e54a9f7832c802bd", func := "loop.example/g00941/laws.FnExactCircuitRatio", spec := "fnExactCircuitRatio", unfollowed := true, recurses := true, apart := false }
def FnExactCircuitRatioSaid : Prop := fnExactCircuitRatioRow.holds Try.pinned (OpenSpec.ofChange fnExactCircuitRatioSpec)

/-- ITS FALSE NEIGHBOUR: 'it returns false'. Refute it at one input. -/
def fnExactCircuitRatioWrong : ChangeSpec := { name := "fnExactCircuitRatio", fn := fun _ => fun
  | [d1, d2] => { results := [.lit (.bool false)], args := [d1, d2] }
  | _ => none }
def FnExactCircuitRatioWrongFalsely : Prop := fnExactCircuitRatioRow.holds Try.pinned (OpenSpec.ofChange fnExactCircuitRatioWrong)

/- THE SECOND FORM. 'bulk': how many values and letters a reading holds, each counted each time it is reached (what is shared counts as often as it is met; a slice's spare places count too). A statement '..UptoSaid' is the law's where the arguments, and the package variables that the reading takes, are together of bulk at most 1048576: NARROWER than '..Said'. Prove '..Said' where nothing that the law and all that it calls make is longer than what came in: it says more and counts as full. Else prove '..UptoSaid'. A law counts once. -/
mutual
def uptoBulk {H : Type} : DataW H → Nat
  | .lit (.string bytes) => bytes.length + 1
  | .lit _ => 1
  | .nil => 1
  | .ptr d => uptoBulk d + 1
  | .slice elems spare => uptoBulkAll elems + uptoBulkAll spare + 1
  | .agg parts => uptoBulkAll parts + 1
  | .iface _ d => uptoBulk d + 1
  | .map entries => uptoBulkEntries entries + 1
  | .held _ => 1
def uptoBulkAll {H : Type} : List (DataW H) → Nat
  | [] => 0
  | d :: r => uptoBulk d + uptoBulkAll r
def uptoBulkEntries {H : Type} : List (Lit × DataW H) → Nat
  | [] => 0
  | x :: r => uptoBulkEntry x + uptoBulkEntries r
def uptoBulkEntry {H : Type} : Lit × DataW H → Nat
  | (.string bytes, d) => bytes.length + uptoBulk d + 1
  | (_, d) => uptoBulk d + 1
 end
def uptoSmall : (H : Type) → List (DataW H) → Bool := fun _ ds => decide (uptoBulkAll ds ≤ 1048576)
def OpenSpec.upto (s : _root_.Go.ChangeSpec) : _root_.Go.OpenSpec := { _root_.Go.OpenSpec.ofChange s with cond := some uptoSmall }

/-- 'laws.FnExactCircuitTokens', WHERE WHAT IT READS IS OF BULK AT MOST 1048576: true; the input reads as it did. -/
def fnExactCircuitTokensUptoRow : OpenClaim := { program := "ytflhkmdipijkcaa", sum := "625c8c19b1e6e73c47635369a12170f5f841d69c1139c576e54a9f7832c802bd", func := "loop.example/g00941/laws.FnExactCircuitTokens", spec := "fnExactCircuitTokens", unfollowed := true, recurses := true, apart := false, narrowed := true }
def FnExactCircuitTokensUptoSaid : Prop := fnExactCircuitTokensUptoRow.holds Try.pinned (OpenSpec.upto fnExactCircuitTokensSpec)

/-- 'laws.FnExactStretchGraph', WHERE WHAT IT READS IS OF BULK AT MOST 1048576: true; the input reads as it did. -/
def fnExactStretchGraphUptoRow : OpenClaim := { program := "ytflhkmdipijkcaa", sum := "625c8c19b1e6e73c47635369a12170f5f841d69c1139c576e54a9f7832c802bd", func := "loop.example/g00941/laws.FnExactStretchGraph", spec := "fnExactStretchGraph", unfollowed := true, recurses := true, apart := false, narrowed := true }
def FnExactStretchGraphUptoSaid : Prop := fnExactStretchGraphUptoRow.holds Try.pinned (OpenSpec.upto fnExactStretchGraphSpec)

/-- 'laws.FnExactLimitPlace', WHERE WHAT IT READS IS OF BULK AT MOST 1048576: true; the input reads as it did. -/
def fnExactLimitPlaceUptoRow : OpenClaim := { program := "ytflhkmdipijkcaa", sum := "625c8c19b1e6e73c47635369a12170f5f841d69c1139c576e54a9f7832c802bd", func := "loop.example/g00941/laws.FnExactLimitPlace", spec := "fnExactLimitPlace", unfollowed := true, recurses := true, apart := false, narrowed := true }
def FnExactLimitPlaceUptoSaid : Prop := fnExactLimitPlaceUptoRow.holds Try.pinned (OpenSpec.upto fnExactLimitPlaceSpec)

/-- 'laws.FnExactFireEvent', WHERE WHAT IT READS IS OF BULK AT MOST 1048576: true; the input reads as it did. -/
def fnExactFireEventUptoRow : OpenClaim := { program := "ytflhkmdipijkcaa", sum := "625c8c19b1e6e73c47635369a12170f5f841d69c1139c576e54a9f7832c802bd", func := "loop.example/g00941/laws.FnExactFireEvent", spec := "fnExactFireEvent", unfollowed := true, recurses := true, apart := false, narrowed := true }
def FnExactFireEventUptoSaid : Prop := fnExactFireEventUptoRow.holds Try.pinned (OpenSpec.upto fnExactFireEventSpec)

/-- 'laws.FnExactCircuitRatio', WHERE WHAT IT READS IS OF BULK AT MOST 1048576: true; the input reads as it did. -/
def fnExactCircuitRatioUptoRow : OpenClaim := { program := "ytflhkmdipijkcaa", sum := "625c8c19b1e6e73c47635369a12170f5f841d69c1139c576e54a9f7832c802bd", func := "loop.example/g00941/laws.FnExactCircuitRatio", spec := "fnExactCircuitRatio", unfollowed := true, recurses := true, apart := false, narrowed := true }
def FnExactCircuitRatioUptoSaid : Prop := fnExactCircuitRatioUptoRow.holds Try.pinned (OpenSpec.upto fnExactCircuitRatioSpec)

end Rows
end Go.Proofs.Ytflhkmdipijkcaa
