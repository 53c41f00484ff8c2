/-
  The reference's walk of IsCircuit.
-/
import Derived.Test.YtbdklhahbeiffaaCircuit
namespace Go.Proofs.Ytbdklhahbeiffaa
open Go.RowKit
set_option linter.unusedVariables false
set_option linter.unusedSimpArgs false

end Go.Proofs.Ytbdklhahbeiffaa
