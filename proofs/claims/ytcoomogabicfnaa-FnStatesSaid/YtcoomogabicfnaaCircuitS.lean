/-
  The reference's walk of IsCircuit.
-/
import Derived.Test.YtcoomogabicfnaaInts
namespace Go.Proofs.Ytcoomogabicfnaa
open Go.RowKit
set_option linter.unusedVariables false
set_option linter.unusedSimpArgs false

/-- The place that the k-th number of a list names. -/
def plc (gp : List Place) (m : List Int) (k : Nat) : Place := gp.getD (m.getD k 0).toNat ⟨0, 0, 0, 0⟩
/-- The list is a circuit: not empty, all places there, no event left twice, each place ends where the next begins. -/
def circuitB (gp : List Place) (m : List Int) : Bool :=
  decide (0 < m.length) && allB m 0 ((gp.length : Int) - 1)
    && ((List.range m.length).all fun k => (List.range k).all fun j => decide ((plc gp m j).src ≠ (plc gp m k).src))
    && (List.range m.length).all fun k => decide ((plc gp m k).dst = (plc gp m ((k + 1) % m.length)).src)
theorem circuit_iff (gp : List Place) (m : List Int) : circuitB gp m = true ↔ 0 < m.length ∧ allB m 0 ((gp.length : Int) - 1) = true
    ∧ (∀ k, k < m.length → ∀ j, j < k → (plc gp m j).src ≠ (plc gp m k).src) ∧ (∀ k, k < m.length → (plc gp m k).dst = (plc gp m ((k + 1) % m.length)).src) := by
  unfold circuitB
  simp only [Bool.and_eq_true, decide_eq_true_eq, List.all_eq_true, List.mem_range, and_assoc]
theorem circuit_not {gp : List Place} {m : List Int} (h : circuitB gp m = true → False) : circuitB gp m = false := by
  cases e : circuitB gp m
  · rfl
  · exact (h e).elim
theorem plc_at {gp : List Place} {m : List Int} {k q : Nat} (hk : k < m.length) (hq : m[k] = (q : Int)) (hl : q < gp.length) : plc gp m k = gp[q] := by
  unfold plc
  rw [List.getD_eq_getElem?_getD, List.getD_eq_getElem?_getD, List.getElem?_eq_getElem hk, Option.getD_some, hq, Int.toNat_natCast, List.getElem?_eq_getElem hl, Option.getD_some]
theorem allB_at {m : List Int} {lo hi : Int} (h : allB m lo hi = true) (k : Nat) (hk : k < m.length) : lo ≤ m[k] ∧ m[k] ≤ hi := by
  unfold allB at h
  rw [List.all_eq_true] at h
  have := h _ (List.getElem_mem hk)
  simpa [inB] using this
theorem allB_place {gp : List Place} {m : List Int} (h : allB m 0 ((gp.length : Int) - 1) = true) (k : Nat) (hk : k < m.length) : ∃ q : Nat, m[k] = (q : Int) ∧ q < gp.length ∧ ∀ hl : q < gp.length, plc gp m k = gp[q] := by
  obtain ⟨h0, h1⟩ := allB_at h k hk
  obtain ⟨q, hq⟩ := Int.eq_ofNat_of_zero_le h0
  exact ⟨q, hq, by omega, fun hl => plc_at hk hq hl⟩
/-- The index before: round the list's end. -/
def prevK (n k : Nat) : Nat := if k = 0 then n - 1 else k - 1
theorem prevK_lt {n k : Nat} (h : k < n) : prevK n k < n := by unfold prevK; split <;> omega
theorem prevK_next {n k : Nat} (h : k < n) : (prevK n k + 1) % n = k := by
  unfold prevK
  split
  · rw [show n - 1 + 1 = n by omega, Nat.mod_self]; omega
  · rw [show k - 1 + 1 = k by omega, Nat.mod_eq_of_lt h]
theorem next_prevK {n k : Nat} (h : k < n) : (k + 1) % n < n ∧ prevK n ((k + 1) % n) = k := by
  rcases Nat.lt_or_ge (k + 1) n with h1 | h1
  · rw [Nat.mod_eq_of_lt h1]; exact ⟨h1, by simp [prevK]⟩
  · have e : k + 1 = n := by omega
    rw [e, Nat.mod_self]
    exact ⟨by omega, by simp [prevK]; omega⟩
def srcs (gp : List Place) (m : List Int) (k : Nat) : List Int := (List.range k).map fun j => (plc gp m j).src
theorem srcs_len (gp : List Place) (m : List Int) (k : Nat) : (srcs gp m k).length = k := by simp [srcs]
theorem srcs_snoc (gp : List Place) (m : List Int) (k : Nat) : srcs gp m (k + 1) = srcs gp m k ++ [(plc gp m k).src] := by simp [srcs, List.range_succ]
theorem srcs_has (gp : List Place) (m : List Int) (k : Nat) (x : Int) : hasI (srcs gp m k) x = true ↔ ∃ j, j < k ∧ (plc gp m j).src = x := by
  rw [hasI_iff]; simp [srcs]
theorem srcs_hasnt {gp : List Place} {m : List Int} {k : Nat} {x : Int} (h : hasI (srcs gp m k) x = false) : ∀ j, j < k → (plc gp m j).src ≠ x := by
  intro j hj e
  have := (srcs_has gp m k x).2 ⟨j, hj, e⟩
  rw [h] at this
  exact Bool.noConfusion this

end Go.Proofs.Ytcoomogabicfnaa
namespace Go.Proofs.Ytcoomogabicfnaa
open Go.RowKit
set_option linter.unusedVariables false
set_option linter.unusedSimpArgs false

end Go.Proofs.Ytcoomogabicfnaa
