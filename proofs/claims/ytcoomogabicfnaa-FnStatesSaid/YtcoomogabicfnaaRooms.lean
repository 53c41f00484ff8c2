/-
  The walks of RoomsOf, the program's and the reference's, and of what they call.
-/
import Derived.Test.YtcoomogabicfnaaInts
namespace Go.Proofs.Ytcoomogabicfnaa
open Go.RowKit
set_option linter.unusedVariables false
set_option linter.unusedSimpArgs false

/-- The code of a graph and the index of a place. -/
def idxCode (ge : Int) (gp : List Place) (i : Int) : Int := if okGraph ge gp = true then (if inB i 0 ((gp.length : Int) - 1) = true then 0 else 2) else 1

/-- What RoomsOf tells of a place: the least and the greatest room, and the code. -/
def roomsF (ge : Int) (gp : List Place) (i : Int) : Int × Int × Int :=
  if idxCode ge gp i = 0 then (max 1 (gp.getD i.toNat ⟨0, 0, 0, 0⟩).tokens, min 8 ((gp.getD i.toNat ⟨0, 0, 0, 0⟩).tokens + 5), 0) else (0, 0, idxCode ge gp i)
theorem idxCode_zero {ge : Int} {gp : List Place} {i : Int} (h : idxCode ge gp i = 0) : okGraph ge gp = true ∧ 0 ≤ i ∧ i < gp.length := by
  unfold idxCode at h
  split at h
  · split at h
    · rename_i h1 h2
      have := (inB_iff _ _ _).1 h2
      exact ⟨h1, this.1, by omega⟩
    · omega
  · omega

/-- A list of one to three different indices of n places. -/
def bufUp (n : Nat) (l : List Int) (k : Nat) : Bool := (List.range k).all fun j => inB (l.getD j 0) 0 ((n : Int) - 1) && !hasI (l.take j) (l.getD j 0)
def bufOk (n : Nat) (l : List Int) : Bool := inB l.length 1 3 && bufUp n l l.length
theorem bufUp_succ (n : Nat) (l : List Int) (k : Nat) : bufUp n l (k + 1) = (bufUp n l k && (inB (l.getD k 0) 0 ((n : Int) - 1) && !hasI (l.take k) (l.getD k 0))) := by
  simp [bufUp, List.range_succ, List.all_append]
theorem bufUp_false (n : Nat) (l : List Int) (k m : Nat) (hk : k < m) (h : (inB (l.getD k 0) 0 ((n : Int) - 1) && !hasI (l.take k) (l.getD k 0)) = false) : bufUp n l m = false := by
  unfold bufUp
  rw [List.all_eq_false]
  exact ⟨k, List.mem_range.2 hk, by rw [h]; simp⟩
theorem bufOk_one (n : Nat) (i : Int) : bufOk n [i] = inB i 0 ((n : Int) - 1) := by
  simp [bufOk, bufUp, inB, hasI, List.range_succ]
end Go.Proofs.Ytcoomogabicfnaa
