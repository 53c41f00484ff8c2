/-
  What a text imports that cuts around a region.
-/
import Derived.Test.YtickecljchccoaaMore
import Derived.Deep.DeepCutAuto
namespace Go.Proofs.Ytickecljchccoaa
end Go.Proofs.Ytickecljchccoaa
