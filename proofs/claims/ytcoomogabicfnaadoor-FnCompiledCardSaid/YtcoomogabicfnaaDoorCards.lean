/-
  DERIVED. GIVEN WITH THE SEED: THE CARDS: each row of YtcoomogabicfnaaDoorRows.lean that lists a variable, with what it lists TIED to the program's text (the seventh form; the later family's looks); each row that meets fmt, with fmt's text TOLD by the authors' own Lean function (tested against real Go, not proved from fmt's source: count such statements apart). THE CARD IS WHAT COUNTS. Prove the row's statement (the work); the ties are given (YtcoomogabicfnaaDoorTie.lean); close each card by the builder's one call (the guide's Derived/Test/ToyasCard.lean, 'card_holds'). Laid BY PROGRAM, IN A SANDBOX (cutbox-door.mjs). By AI agents, Wed Nov 11 2026. No macro, syntax, notation, axiom, sorry.
-/
import Derived.Test.YtcoomogabicfnaaDoorRows
import GoSem.ClaimSeven
namespace Go.Proofs.YtcoomogabicfnaaDoor
namespace Rows

/-- THE TIED CARD OF 'laws.FnExactCompileText'. -/
def fnExactCompileTextCard : Claim7 := { stood := { row := fnExactCompileTextRow, standIns := [], harness := (true, "c6307b4a8664b9e08ce2abcb49e510bb850305fd45998d07d20266227d68a8ca"), looks := true }, kinds := [], alts := [], laidByText := true, laidKinds := [.data, .data, .data, .data, .sentinel, .sentinel, .pinned], laidTests := true, laidLooks := .later }
def FnExactCompileTextCardSaid : Prop := Claim7.holds Tryd.pinned (.plain (OpenSpec.ofChange fnExactCompileTextSpec)) fnExactCompileTextCard

/-- THE TIED CARD OF 'laws.FnCompiled'. -/
def fnCompiledCard : Claim7 := { stood := { row := fnCompiledRow, standIns := [], harness := (true, "c6307b4a8664b9e08ce2abcb49e510bb850305fd45998d07d20266227d68a8ca"), looks := true }, kinds := [], alts := [], laidByText := true, laidKinds := [.data, .data, .data, .data, .sentinel, .sentinel, .pinned], laidTests := true, laidLooks := .later }
def FnCompiledCardSaid : Prop := Claim7.holds Tryd.pinned (.plain (OpenSpec.ofChange fnCompiledSpec)) fnCompiledCard

/-- THE SECOND FORM's CARD OF 'laws.FnExactCompileText'. -/
def fnExactCompileTextUptoCard : Claim7 := { stood := { row := fnExactCompileTextUptoRow, standIns := [], harness := (true, "c6307b4a8664b9e08ce2abcb49e510bb850305fd45998d07d20266227d68a8ca"), looks := true }, kinds := [], alts := [], laidByText := true, laidKinds := [.data, .data, .data, .data, .sentinel, .sentinel, .pinned], laidTests := true, laidLooks := .later }
def FnExactCompileTextUptoCardSaid : Prop := Claim7.holds Tryd.pinned (.plain (OpenSpec.upto fnExactCompileTextSpec)) fnExactCompileTextUptoCard

/-- THE SECOND FORM's CARD OF 'laws.FnCompiled'. -/
def fnCompiledUptoCard : Claim7 := { stood := { row := fnCompiledUptoRow, standIns := [], harness := (true, "c6307b4a8664b9e08ce2abcb49e510bb850305fd45998d07d20266227d68a8ca"), looks := true }, kinds := [], alts := [], laidByText := true, laidKinds := [.data, .data, .data, .data, .sentinel, .sentinel, .pinned], laidTests := true, laidLooks := .later }
def FnCompiledUptoCardSaid : Prop := Claim7.holds Tryd.pinned (.plain (OpenSpec.upto fnCompiledSpec)) fnCompiledUptoCard
end Rows
end Go.Proofs.YtcoomogabicfnaaDoor
