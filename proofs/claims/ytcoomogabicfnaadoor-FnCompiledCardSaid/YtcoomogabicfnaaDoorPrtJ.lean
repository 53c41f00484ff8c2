/-
  The walk of the program's PrintText, the exported one.
-/
import Derived.Test.YtcoomogabicfnaaDoorPrtI
namespace Go.Proofs.YtcoomogabicfnaaDoor
open Go.RowKit
set_option linter.unusedVariables false
set_option linter.unusedSimpArgs false
theorem namesT_bad {ge : Int} {N : List ByteArray} {k : Nat} (hk : k < N.length) (h : nameOk N[k] = false ∨ 0 ≤ findStr (N.take k) N[k]) : namesOk ge N = false := by
  cases hn : namesOk ge N with
  | false => rfl
  | true =>
    obtain ⟨_, h1, h2⟩ := namesOk_parts hn
    rcases h with h | h
    · rw [h1 _ (List.getElem_mem hk)] at h
      cases h
    · have hr := (findStr_range (N.take k) N[k]).2
      have e : N[k] ∈ N.take k := by
        refine Classical.byContradiction fun hm => ?_
        rw [findStr_miss (N.take k) N[k] (fun j hj he => hm (he ▸ List.getElem_mem hj))] at h
        omega
      obtain ⟨j, hj, he⟩ := List.getElem_of_mem e
      rw [List.length_take] at hj
      rw [List.getElem_take] at he
      rw [List.nodup_iff_pairwise_ne, List.pairwise_iff_getElem] at h2
      exact absurd he (h2 j k (by omega) hk (by omega))
theorem namesT_all {N : List ByteArray} (h : ∀ j (hj : j < N.length), nameOk N[j] = true ∧ findStr (N.take j) N[j] < 0) : namesOk N.length N = true := by
  have h1 : N.all nameOk = true := by
    rw [List.all_eq_true]
    intro x hx
    obtain ⟨j, hj, rfl⟩ := List.getElem_of_mem hx
    exact (h j hj).1
  have h2 : N.Nodup := by
    rw [List.nodup_iff_pairwise_ne, List.pairwise_iff_getElem]
    intro i j hi hj hij he
    refine findStr_neg (h j hj).2 (he ▸ ?_)
    rw [List.mem_take_iff_getElem]
    exact ⟨i, by omega, rfl⟩
  simp [namesOk, h1, h2]
end Go.Proofs.YtcoomogabicfnaaDoor
