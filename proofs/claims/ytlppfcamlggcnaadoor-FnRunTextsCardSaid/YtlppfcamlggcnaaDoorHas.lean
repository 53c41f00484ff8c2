/-
  The laws' search for a number.
-/
import Derived.Test.YtlppfcamlggcnaaDoorInts
namespace Go.Proofs.YtlppfcamlggcnaaDoor
open Go.RowKit
set_option linter.unusedVariables false
set_option linter.unusedSimpArgs false
end Go.Proofs.YtlppfcamlggcnaaDoor
