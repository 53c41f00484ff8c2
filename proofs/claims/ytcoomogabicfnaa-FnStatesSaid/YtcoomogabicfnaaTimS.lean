/-
  Firing times, the reference's.
-/
import Derived.Test.YtcoomogabicfnaaTimP
import Derived.Test.YtcoomogabicfnaaOrdH
namespace Go.Proofs.Ytcoomogabicfnaa
open Go.RowKit
set_option linter.unusedVariables false
set_option linter.unusedSimpArgs false

end Go.Proofs.Ytcoomogabicfnaa
