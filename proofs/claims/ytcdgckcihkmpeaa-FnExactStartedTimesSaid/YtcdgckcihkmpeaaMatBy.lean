/-
  The walks of the functions that make matrices.
-/
import Derived.Test.YtcdgckcihkmpeaaMat
import Derived.Test.YtcdgckcihkmpeaaDraw
namespace Go.Proofs.Ytcdgckcihkmpeaa
open Go.RowKit
set_option linter.unusedVariables false
set_option linter.unusedSimpArgs false

end Go.Proofs.Ytcdgckcihkmpeaa
