/-
  Firing times, the reference's.
-/
import Derived.Test.YtbdklhahbeiffaaTimP
import Derived.Test.YtbdklhahbeiffaaOrdH
namespace Go.Proofs.Ytbdklhahbeiffaa
open Go.RowKit
set_option linter.unusedVariables false
set_option linter.unusedSimpArgs false

end Go.Proofs.Ytbdklhahbeiffaa
