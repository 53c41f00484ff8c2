/-
  Firing times, the program's.
-/
import Derived.Test.YtcoomogabicfnaaTimP
import Derived.Test.YtcoomogabicfnaaOrdI
namespace Go.Proofs.Ytcoomogabicfnaa
open Go.RowKit
set_option linter.unusedVariables false
set_option linter.unusedSimpArgs false

end Go.Proofs.Ytcoomogabicfnaa
