/-
  The walks of the reference's IsRun.
-/
import Derived.Test.YtcoomogabicfnaaGreatDoorRunP
import Derived.Test.YtcoomogabicfnaaGreatDoorInts
import Derived.Test.YtcoomogabicfnaaGreatDoorMore
namespace Go.Proofs.YtcoomogabicfnaaGreatDoor
open Go.RowKit
set_option linter.unusedVariables false
set_option linter.unusedSimpArgs false

end Go.Proofs.YtcoomogabicfnaaGreatDoor
