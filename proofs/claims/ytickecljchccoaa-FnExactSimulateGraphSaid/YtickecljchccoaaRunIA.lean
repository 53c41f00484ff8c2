/-
  IsRun, the program's.
-/
import Derived.Test.YtickecljchccoaaRunI
import Derived.Test.YtickecljchccoaaMarking
namespace Go.Proofs.Ytickecljchccoaa
open Go.RowKit
set_option linter.unusedVariables false
set_option linter.unusedSimpArgs false

/-- The table that the program keeps: the times of each event's firings so far. -/
def tabR (n : Nat) (l : List Firing) : List (List Int) := (List.range n).map fun i : Nat => timesIn l (i : Int)
theorem tabR_len (n : Nat) (l : List Firing) : (tabR n l).length = n := by simp [tabR]
theorem tabR_get (n : Nat) (l : List Firing) (i : Nat) (h : i < (tabR n l).length) : (tabR n l)[i] = timesIn l (i : Int) := by simp [tabR]
theorem tabR_nil (n : Nat) : tabR n [] = List.replicate n [] := by
  refine List.ext_getElem (by simp [tabR]) fun i h1 h2 => ?_
  rw [tabR_get]
  simp [timesIn]
theorem tabR_set (n : Nat) (l : List Firing) (e : Nat) (nu t : Int) : (tabR n l).set e (timesIn l (e : Int) ++ [t]) = tabR n (l ++ [⟨(e : Int), nu, t⟩]) := by
  refine List.ext_getElem (by simp [tabR]) fun i h1 h2 => ?_
  rw [tabR_get, timesIn_snoc]
  by_cases he : e = i
  · subst he
    simp
  · rw [List.getElem_set_ne he, tabR_get]
    have : ¬ (e : Int) = (i : Int) := by omega
    simp [this]
theorem tabR_row (n : Nat) (l : List Firing) (i : Int) (h0 : 0 ≤ i) (h : i < n) : rowOf (tabR n l) i = timesIn l i := by
  obtain ⟨j, rfl⟩ := Int.eq_ofNat_of_zero_le h0
  rw [rowOf_nat _ _ (by rw [tabR_len]; omega), tabR_get]
theorem tabR_ready {n : Nat} {gp : List Place} (hok : okGraph n gp = true) (l : List Firing) (e : Int) (h0 : 0 ≤ e) (h : e < n) : readyS gp (rowOf (tabR n l)) e = readyS gp (timesIn l) e :=
  readyS_congr gp _ _ e (tabR_row n l e h0 h) fun p hp => tabR_row n l p.src (okGraph_place hok hp).1.1 (okGraph_place hok hp).1.2
theorem tabR_ok {ge : Int} {l : List Firing} (h : RunOk ge l) (hl : l.length ≤ 1000) (n : Nat) : ∀ r ∈ tabR n l, r.length ≤ 1000 ∧ ∀ x ∈ r, 0 ≤ x ∧ x ≤ 1000000 := by
  intro r hr
  obtain ⟨i, _, rfl⟩ := List.mem_map.1 hr
  refine ⟨Nat.le_trans (timesIn_len _ _) hl, fun x hx => ?_⟩
  obtain ⟨f, hf, rfl⟩ := timesIn_mem hx
  exact (h.2 f hf).2
end Go.Proofs.Ytickecljchccoaa
