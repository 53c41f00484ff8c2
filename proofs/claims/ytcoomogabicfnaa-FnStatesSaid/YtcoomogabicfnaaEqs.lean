/-
  The walks of the laws' comparisons of structs and of lists of structs.
-/
import Derived.Test.YtcoomogabicfnaaCopy
namespace Go.Proofs.Ytcoomogabicfnaa
open Go.RowKit
set_option linter.unusedVariables false
set_option linter.unusedSimpArgs false


end Go.Proofs.Ytcoomogabicfnaa
namespace Go.Proofs.Ytcoomogabicfnaa
open Go.RowKit
set_option linter.unusedVariables false
set_option linter.unusedSimpArgs false

theorem only_setCell {a w : World} {r : Option Nat} (h : a.grownBy w r) {p : Addr} (hp : r = some p.block ∨ a.heap.size ≤ p.block) (u : Value) : a.grownBy (w.setCell p u) r :=
  ⟨h.os, h.tape, h.output, by simpa [World.setCell] using h.size, fun i hi hne => (Below.heap_setCell w p u i (by
    rintro rfl
    rcases hp with hp | hp
    · exact hne hp.symm
    · omega)).trans (h.block i hi hne)⟩
theorem grown_trans' {a b c : World} {r : Option Nat} (h : a.grownBy b r) (k : b.grownBy c r) : a.grownBy c r :=
  ⟨k.os.trans h.os, k.tape.trans h.tape, k.output.trans h.output, Nat.le_trans h.size k.size, fun i hi hn => (k.block i (Nat.lt_of_lt_of_le hi h.size) hn).trans (h.block i hi hn)⟩

def markInt64 (k : Int) (i : Nat) : Int := k + i
def marksInt64 (k : Int) (n : Nat) : List Int := (List.range n).map (markInt64 k)
theorem marksInt64_len (k : Int) (n : Nat) : (marksInt64 k n).length = n := by simp [marksInt64]
theorem marksInt64_get (k : Int) (j n : Nat) (h : j < (marksInt64 k n).length) : (marksInt64 k n)[j] = markInt64 k j := by simp [marksInt64]
theorem marksInt64_step (k : Int) (j : Nat) (l : List Int) (h : j < l.length) : (marksInt64 k j ++ l.drop j).set j (markInt64 k j) = marksInt64 k (j + 1) ++ l.drop (j + 1) := by
  rw [List.set_append_right _ _ (by simp [marksInt64_len])]
  have e : j - (marksInt64 k j).length = 0 := by simp [marksInt64_len]
  rw [e, List.drop_eq_getElem_cons h, List.set_cons_zero]
  simp [marksInt64, List.range_succ]

def markFiring (k : Int) (i : Nat) : Firing := ⟨k + i * 3, k + i * 3 + 1, k + i * 3 + 1 + 1⟩
def marksFiring (k : Int) (n : Nat) : List Firing := (List.range n).map (markFiring k)
theorem marksFiring_len (k : Int) (n : Nat) : (marksFiring k n).length = n := by simp [marksFiring]
theorem marksFiring_get (k : Int) (j n : Nat) (h : j < (marksFiring k n).length) : (marksFiring k n)[j] = markFiring k j := by simp [marksFiring]
theorem marksFiring_step (k : Int) (j : Nat) (l : List Firing) (h : j < l.length) : (marksFiring k j ++ l.drop j).set j (markFiring k j) = marksFiring k (j + 1) ++ l.drop (j + 1) := by
  rw [List.set_append_right _ _ (by simp [marksFiring_len])]
  have e : j - (marksFiring k j).length = 0 := by simp [marksFiring_len]
  rw [e, List.drop_eq_getElem_cons h, List.set_cons_zero]
  simp [marksFiring, List.range_succ]

def markPlace (k : Int) (i : Nat) : Place := ⟨k + i * 4, k + i * 4 + 1, k + i * 4 + 1 + 1, k + i * 4 + 1 + 1 + 1⟩
def marksPlace (k : Int) (n : Nat) : List Place := (List.range n).map (markPlace k)
theorem marksPlace_len (k : Int) (n : Nat) : (marksPlace k n).length = n := by simp [marksPlace]
theorem marksPlace_get (k : Int) (j n : Nat) (h : j < (marksPlace k n).length) : (marksPlace k n)[j] = markPlace k j := by simp [marksPlace]
theorem marksPlace_step (k : Int) (j : Nat) (l : List Place) (h : j < l.length) : (marksPlace k j ++ l.drop j).set j (markPlace k j) = marksPlace k (j + 1) ++ l.drop (j + 1) := by
  rw [List.set_append_right _ _ (by simp [marksPlace_len])]
  have e : j - (marksPlace k j).length = 0 := by simp [marksPlace_len]
  rw [e, List.drop_eq_getElem_cons h, List.set_cons_zero]
  simp [marksPlace, List.range_succ]
end Go.Proofs.Ytcoomogabicfnaa
namespace Go.Proofs.Ytcoomogabicfnaa
open Go.RowKit
set_option linter.unusedVariables false
set_option linter.unusedSimpArgs false
end Go.Proofs.Ytcoomogabicfnaa
