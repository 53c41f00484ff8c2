/-
  The walks of the functions that look for a number in a list.
-/
import Derived.Test.YtcoomogabicfnaaDoorGraph
namespace Go.Proofs.YtcoomogabicfnaaDoor
open Go.RowKit
set_option linter.unusedVariables false
set_option linter.unusedSimpArgs false


def allB (l : List Int) (lo hi : Int) : Bool := l.all fun n => inB n lo hi
theorem allB_snoc (l : List Int) (n lo hi : Int) : allB (l ++ [n]) lo hi = (allB l lo hi && inB n lo hi) := by simp [allB]
theorem allB_false (l : List Int) (k : Nat) (hk : k < l.length) (lo hi : Int) (h : inB l[k] lo hi = false) : allB l lo hi = false := by
  unfold allB
  rw [List.all_eq_false]
  exact ⟨_, List.getElem_mem hk, by simp [h]⟩
end Go.Proofs.YtcoomogabicfnaaDoor
namespace Go.Proofs.YtcoomogabicfnaaDoor
open Go.RowKit
set_option linter.unusedVariables false
set_option linter.unusedSimpArgs false

def findI (l : List Int) (x : Int) : Int := idxP (fun y => decide (y = x)) l
def hasI (l : List Int) (x : Int) : Bool := l.any fun y => decide (y = x)
theorem hasI_iff (l : List Int) (x : Int) : hasI l x = true ↔ x ∈ l := by simp [hasI]
theorem hasI_hit (l : List Int) (x : Int) (k : Nat) (hk : k < l.length) (e : l[k] = x) : hasI l x = true := by rw [hasI_iff, ← e]; exact List.getElem_mem hk
theorem hasI_miss (l : List Int) (x : Int) (h : ∀ j (hj : j < l.length), l[j] ≠ x) : hasI l x = false := by
  cases e : hasI l x
  · rfl
  · obtain ⟨j, hj, e⟩ := List.mem_iff_getElem.1 ((hasI_iff l x).1 e)
    exact absurd e (h j hj)
end Go.Proofs.YtcoomogabicfnaaDoor
