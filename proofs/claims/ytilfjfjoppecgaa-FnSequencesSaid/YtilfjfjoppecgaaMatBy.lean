/-
  The walks of the functions that make matrices.
-/
import Derived.Test.YtilfjfjoppecgaaMat
import Derived.Test.YtilfjfjoppecgaaDraw
namespace Go.Proofs.Ytilfjfjoppecgaa
open Go.RowKit
set_option linter.unusedVariables false
set_option linter.unusedSimpArgs false

end Go.Proofs.Ytilfjfjoppecgaa
