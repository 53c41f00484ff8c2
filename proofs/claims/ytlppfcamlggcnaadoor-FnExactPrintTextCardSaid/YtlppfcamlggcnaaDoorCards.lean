/-
  DERIVED. GIVEN WITH THE SEED: THE CARDS: each row of YtlppfcamlggcnaaDoorRows.lean that lists a variable, with what it lists TIED to the program's text (the seventh form; the later family's looks); each row that meets fmt, with fmt's text TOLD by the authors' own Lean function (tested against real Go, not proved from fmt's source: count such statements apart). THE CARD IS WHAT COUNTS. Prove the row's statement (the work); the ties are given (YtlppfcamlggcnaaDoorTie.lean); close each card by the builder's one call (the guide's Derived/Test/ToyasCard.lean, 'card_holds'). Laid BY PROGRAM, IN A SANDBOX (cutbox-door.mjs). By AI agents, Wed Nov 11 2026. No macro, syntax, notation, axiom, sorry.
-/
import Derived.Test.YtlppfcamlggcnaaDoorRows
import GoSem.ClaimSeven
namespace Go.Proofs.YtlppfcamlggcnaaDoor
namespace Rows

/-- THE TIED CARD OF 'laws.FnCompiled'. -/
def fnCompiledCard : Claim7 := { stood := { row := fnCompiledRow, standIns := [], harness := (true, "150eacb5d439c8fb1c8089e5b36f824d725930f86cb8f6d307ae053ac3e2f1a4"), looks := true }, kinds := [], alts := [], laidByText := true, laidKinds := [.data, .data, .data, .data, .sentinel, .sentinel, .pinned], laidTests := true, laidLooks := .later }
def FnCompiledCardSaid : Prop := Claim7.holds Tryd.pinned (.plain (OpenSpec.ofChange fnCompiledSpec)) fnCompiledCard

/-- THE TIED CARD OF 'laws.FnRunTexts'. -/
def fnRunTextsCard : Claim7 := { stood := { row := fnRunTextsRow, standIns := [], harness := (true, "150eacb5d439c8fb1c8089e5b36f824d725930f86cb8f6d307ae053ac3e2f1a4"), looks := true }, kinds := [], alts := [], laidByText := true, laidKinds := [.data, .data, .data, .data, .sentinel, .sentinel, .pinned], laidTests := true, laidLooks := .later }
def FnRunTextsCardSaid : Prop := Claim7.holds Tryd.pinned (.plain (OpenSpec.ofChange fnRunTextsSpec)) fnRunTextsCard

/-- THE TIED CARD OF 'laws.FnExactRunText'. -/
def fnExactRunTextCard : Claim7 := { stood := { row := fnExactRunTextRow, standIns := [], harness := (true, "150eacb5d439c8fb1c8089e5b36f824d725930f86cb8f6d307ae053ac3e2f1a4"), looks := true }, kinds := [], alts := [], laidByText := true, laidKinds := [.data, .data, .data], laidTests := true, laidLooks := .later }
def FnExactRunTextCardSaid : Prop := Claim7.holds Tryd.pinned (.plain (OpenSpec.ofChange fnExactRunTextSpec)) fnExactRunTextCard

/-- THE TIED CARD OF 'laws.FnExactPrintText'. -/
def fnExactPrintTextCard : Claim7 := { stood := { row := fnExactPrintTextRow, standIns := [], harness := (true, "150eacb5d439c8fb1c8089e5b36f824d725930f86cb8f6d307ae053ac3e2f1a4"), looks := true }, kinds := [], alts := [], laidByText := true, laidKinds := [.data, .data, .data], laidTests := true, laidLooks := .later }
def FnExactPrintTextCardSaid : Prop := Claim7.holds Tryd.pinned (.plain (OpenSpec.ofChange fnExactPrintTextSpec)) fnExactPrintTextCard

/-- THE TIED CARD OF 'laws.FnExactReadRun'. -/
def fnExactReadRunCard : Claim7 := { stood := { row := fnExactReadRunRow, standIns := [], harness := (true, "150eacb5d439c8fb1c8089e5b36f824d725930f86cb8f6d307ae053ac3e2f1a4"), looks := true }, kinds := [], alts := [], laidByText := true, laidKinds := [.data, .data, .data, .data, .sentinel, .sentinel, .pinned], laidTests := true, laidLooks := .later }
def FnExactReadRunCardSaid : Prop := Claim7.holds Tryd.pinned (.plain (OpenSpec.ofChange fnExactReadRunSpec)) fnExactReadRunCard

/-- THE TIED CARD OF 'laws.FnExactCompileText'. -/
def fnExactCompileTextCard : Claim7 := { stood := { row := fnExactCompileTextRow, standIns := [], harness := (true, "150eacb5d439c8fb1c8089e5b36f824d725930f86cb8f6d307ae053ac3e2f1a4"), looks := true }, kinds := [], alts := [], laidByText := true, laidKinds := [.data, .data, .data, .data, .sentinel, .sentinel, .pinned], laidTests := true, laidLooks := .later }
def FnExactCompileTextCardSaid : Prop := Claim7.holds Tryd.pinned (.plain (OpenSpec.ofChange fnExactCompileTextSpec)) fnExactCompileTextCard

/-- THE SECOND FORM's CARD OF 'laws.FnCompiled'. -/
def fnCompiledUptoCard : Claim7 := { stood := { row := fnCompiledUptoRow, standIns := [], harness := (true, "150eacb5d439c8fb1c8089e5b36f824d725930f86cb8f6d307ae053ac3e2f1a4"), looks := true }, kinds := [], alts := [], laidByText := true, laidKinds := [.data, .data, .data, .data, .sentinel, .sentinel, .pinned], laidTests := true, laidLooks := .later }
def FnCompiledUptoCardSaid : Prop := Claim7.holds Tryd.pinned (.plain (OpenSpec.upto fnCompiledSpec)) fnCompiledUptoCard

/-- THE SECOND FORM's CARD OF 'laws.FnRunTexts'. -/
def fnRunTextsUptoCard : Claim7 := { stood := { row := fnRunTextsUptoRow, standIns := [], harness := (true, "150eacb5d439c8fb1c8089e5b36f824d725930f86cb8f6d307ae053ac3e2f1a4"), looks := true }, kinds := [], alts := [], laidByText := true, laidKinds := [.data, .data, .data, .data, .sentinel, .sentinel, .pinned], laidTests := true, laidLooks := .later }
def FnRunTextsUptoCardSaid : Prop := Claim7.holds Tryd.pinned (.plain (OpenSpec.upto fnRunTextsSpec)) fnRunTextsUptoCard

/-- THE SECOND FORM's CARD OF 'laws.FnExactRunText'. -/
def fnExactRunTextUptoCard : Claim7 := { stood := { row := fnExactRunTextUptoRow, standIns := [], harness := (true, "150eacb5d439c8fb1c8089e5b36f824d725930f86cb8f6d307ae053ac3e2f1a4"), looks := true }, kinds := [], alts := [], laidByText := true, laidKinds := [.data, .data, .data], laidTests := true, laidLooks := .later }
def FnExactRunTextUptoCardSaid : Prop := Claim7.holds Tryd.pinned (.plain (OpenSpec.upto fnExactRunTextSpec)) fnExactRunTextUptoCard

/-- THE SECOND FORM's CARD OF 'laws.FnExactPrintText'. -/
def fnExactPrintTextUptoCard : Claim7 := { stood := { row := fnExactPrintTextUptoRow, standIns := [], harness := (true, "150eacb5d439c8fb1c8089e5b36f824d725930f86cb8f6d307ae053ac3e2f1a4"), looks := true }, kinds := [], alts := [], laidByText := true, laidKinds := [.data, .data, .data], laidTests := true, laidLooks := .later }
def FnExactPrintTextUptoCardSaid : Prop := Claim7.holds Tryd.pinned (.plain (OpenSpec.upto fnExactPrintTextSpec)) fnExactPrintTextUptoCard

/-- THE SECOND FORM's CARD OF 'laws.FnExactReadRun'. -/
def fnExactReadRunUptoCard : Claim7 := { stood := { row := fnExactReadRunUptoRow, standIns := [], harness := (true, "150eacb5d439c8fb1c8089e5b36f824d725930f86cb8f6d307ae053ac3e2f1a4"), looks := true }, kinds := [], alts := [], laidByText := true, laidKinds := [.data, .data, .data, .data, .sentinel, .sentinel, .pinned], laidTests := true, laidLooks := .later }
def FnExactReadRunUptoCardSaid : Prop := Claim7.holds Tryd.pinned (.plain (OpenSpec.upto fnExactReadRunSpec)) fnExactReadRunUptoCard

/-- THE SECOND FORM's CARD OF 'laws.FnExactCompileText'. -/
def fnExactCompileTextUptoCard : Claim7 := { stood := { row := fnExactCompileTextUptoRow, standIns := [], harness := (true, "150eacb5d439c8fb1c8089e5b36f824d725930f86cb8f6d307ae053ac3e2f1a4"), looks := true }, kinds := [], alts := [], laidByText := true, laidKinds := [.data, .data, .data, .data, .sentinel, .sentinel, .pinned], laidTests := true, laidLooks := .later }
def FnExactCompileTextUptoCardSaid : Prop := Claim7.holds Tryd.pinned (.plain (OpenSpec.upto fnExactCompileTextSpec)) fnExactCompileTextUptoCard
end Rows
end Go.Proofs.YtlppfcamlggcnaaDoor
