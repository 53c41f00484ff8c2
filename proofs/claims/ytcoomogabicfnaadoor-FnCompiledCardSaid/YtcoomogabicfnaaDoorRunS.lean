/-
  The walks of the reference's IsRun.
-/
import Derived.Test.YtcoomogabicfnaaDoorRunP
import Derived.Test.YtcoomogabicfnaaDoorInts
import Derived.Test.YtcoomogabicfnaaDoorMore
namespace Go.Proofs.YtcoomogabicfnaaDoor
open Go.RowKit
set_option linter.unusedVariables false
set_option linter.unusedSimpArgs false

end Go.Proofs.YtcoomogabicfnaaDoor
