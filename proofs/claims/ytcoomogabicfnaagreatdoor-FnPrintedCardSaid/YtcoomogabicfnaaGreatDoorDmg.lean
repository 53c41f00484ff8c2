/-
  The draw of a damaged text.
-/
import Derived.Test.YtcoomogabicfnaaGreatDoorSrc
import Derived.Test.YtcoomogabicfnaaGreatDoorSplit
namespace Go.Proofs.YtcoomogabicfnaaGreatDoor
open Go.RowKit
set_option linter.unusedVariables false
set_option linter.unusedSimpArgs false
def strs8 : List ByteArray := [⟨#[48]⟩, ⟨#[49]⟩, ⟨#[32]⟩, ⟨#[45]⟩, ⟨#[46]⟩, ⟨#[44]⟩, ⟨#[10]⟩, ⟨#[59]⟩]
theorem strs8_len : strs8.length = 8 := rfl
theorem strs8_size (k : Nat) (h : k < strs8.length) : strs8[k].size = 1 := by
  have : ∀ x ∈ strs8, x.size = 1 := by decide
  exact this _ (List.getElem_mem h)
theorem ex_size (s : ByteArray) (a b : Nat) (h : a ≤ b) (hb : b ≤ s.size) : (s.extract a b).size = b - a := by
  rw [ByteArray.size_extract]
  omega
theorem below_grown {w w' : World} (h : Below w.heap.size w w') (g : Nat) : w.grownBy w' (some g) := ⟨h.os, h.tape, h.output, h.size, fun k hk _ => h.block k hk⟩
end Go.Proofs.YtcoomogabicfnaaGreatDoor
