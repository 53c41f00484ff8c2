/-
  The walks of EnabledIn, the program's and the reference's, and of what they call.
-/
import Derived.Test.YtbdklhahbeiffaaMarking
import Derived.Test.YtbdklhahbeiffaaInts
namespace Go.Proofs.Ytbdklhahbeiffaa
open Go.RowKit
set_option linter.unusedVariables false
set_option linter.unusedSimpArgs false

/-- Of the first k places, each that leads to e has a token. -/
def enK (gp : List Place) (m : List Int) (e : Int) (k : Nat) : Bool := (List.range k).all fun i => decide ((gp.getD i ⟨0, 0, 0, 0⟩).dst ≠ e) || decide (0 < m.getD i 0)
def enB (gp : List Place) (m : List Int) (e : Int) : Bool := enK gp m e gp.length
theorem enK_succ (gp : List Place) (m : List Int) (e : Int) (k : Nat) (h : k < gp.length) (h2 : k < m.length) : enK gp m e (k + 1) = (enK gp m e k && (decide (gp[k].dst ≠ e) || decide (0 < m[k]))) := by
  simp [enK, List.range_succ, List.all_append, List.getD, List.getElem?_eq_getElem h, List.getElem?_eq_getElem h2]
theorem enK_false (gp : List Place) (m : List Int) (e : Int) (k n : Nat) (h : k < gp.length) (h2 : k < m.length) (hn : k < n) (h3 : gp[k].dst = e) (h4 : ¬ 0 < m[k]) : enK gp m e n = false := by
  unfold enK
  rw [List.all_eq_false]
  exact ⟨k, List.mem_range.2 hn, by simp [List.getD, List.getElem?_eq_getElem h, List.getElem?_eq_getElem h2, h3]; omega⟩
/-- The enabled ones of the first n events. -/
def enL (gp : List Place) (m : List Int) (n : Nat) : List Int := ((List.range n).map fun (i : Nat) => (i : Int)).filter (enB gp m)
theorem enL_succ (gp : List Place) (m : List Int) (n : Nat) : enL gp m (n + 1) = enL gp m n ++ if enB gp m n = true then [(n : Int)] else [] := by
  unfold enL
  rw [List.range_succ, List.map_append, List.filter_append]
  by_cases h : enB gp m n = true <;> simp [List.filter_cons, h]
theorem enL_len (gp : List Place) (m : List Int) (n : Nat) : (enL gp m n).length ≤ n := by
  unfold enL
  exact Nat.le_trans (List.length_filter_le _ _) (by simp)
theorem enL_mem (gp : List Place) (m : List Int) (n : Nat) (e : Int) : e ∈ enL gp m n ↔ (0 ≤ e ∧ e < n) ∧ enB gp m e = true := by
  unfold enL
  rw [List.mem_filter, List.mem_map]
  constructor
  · rintro ⟨⟨a, ha, rfl⟩, h⟩
    exact ⟨⟨by omega, by have := List.mem_range.1 ha; omega⟩, h⟩
  · rintro ⟨⟨h0, h1⟩, h⟩
    exact ⟨⟨e.toNat, List.mem_range.2 (by omega), by omega⟩, h⟩
/-- What EnabledIn gives. -/
def enF (ge : Int) (gp : List Place) (m : List Int) : List Int × Int :=
  if okGraph ge gp = false then ([], 1) else if okMarking gp m = false then ([], 2) else (enL gp m ge.toNat, 0)
theorem enF_len (ge : Int) (gp : List Place) (m : List Int) : (enF ge gp m).1.length ≤ 1048576 := by
  unfold enF
  cases hg : okGraph ge gp
  · simp
  · have := okGraph_ev hg
    cases hm : okMarking gp m
    · simp
    · simp only [Bool.true_eq_false, if_false]
      have := enL_len gp m ge.toNat
      omega

theorem okMarking_len {gp : List Place} {m : List Int} (h : okMarking gp m = true) : m.length = gp.length := by
  unfold okMarking at h
  simp only [Bool.and_eq_true, decide_eq_true_eq] at h
  exact h.1
theorem okMarking_in {gp : List Place} {m : List Int} (h : okMarking gp m = true) : ∀ x ∈ m, 0 ≤ x ∧ x ≤ 100 := by
  unfold okMarking allB at h
  simp only [Bool.and_eq_true, decide_eq_true_eq, List.all_eq_true, inB_iff] at h
  exact h.2
theorem okMarking_pos {gp : List Place} {m : List Int} (h : okMarking gp m = true) : ∀ x ∈ m, 0 ≤ x := fun x hx => (okMarking_in h x hx).1
end Go.Proofs.Ytbdklhahbeiffaa
