/-
  What a card's condition gives: the package variables that the library reads.
-/
import Derived.Test.YtcoomogabicfnaaGreatDoorTxt
import Derived.Test.YtcoomogabicfnaaGreatDoorOpen
import Derived.Test.YtcoomogabicfnaaGreatDoorCards
import Derived.Test.YtcoomogabicfnaaGreatDoorTie
import Derived.Deep.DeepHandedRow
import Derived.Lib.LaidTab
import Derived.Lay
import Derived.MakeChecks
namespace Go.Proofs.YtcoomogabicfnaaGreatDoor
open Go.ChangeShapes Go.WideShapes Go.RowKit
set_option linter.unusedVariables false
theorem g_tab : Tryz.prog.globalNamed "internal/strconv.uint64pow10" = some 1 := by kernel_rfl
theorem gt_tab : (Tryz.prog.globals[1]?).map (·.type) = some 154 := by kernel_rfl
theorem tabOf_laid {laid : List (String × DataW Unit)} {W : World} (h : laidMetH Tryz.prog laid W) (hS : W.ShapedOpen Tryz.prog) (hp : (laid.all fun x => x.2.handleName?.isNone) = true)
    (hf : laid.filter (fun x => x.1 == "internal/strconv.uint64pow10") = [("internal/strconv.uint64pow10", Lib.tabData .u64 Lib.pow10Tab)]) : TabOf W := by
  rw [Go.MakeChecks.laidMetH_plain _ _ _ hp] at h
  have h2 := laidMet.filter (fun x => x.1 == "internal/strconv.uint64pow10") h
  rw [hf] at h2
  exact Lib.tabIs_of_head (rest := []) g_tab gt_tab Tryz.underlying154 Tryz.underlying139 (by kernel_rfl) (by kernel_rfl) h2
end Go.Proofs.YtcoomogabicfnaaGreatDoor
