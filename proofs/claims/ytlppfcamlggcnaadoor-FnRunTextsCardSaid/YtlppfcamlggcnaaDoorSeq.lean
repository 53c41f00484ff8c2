/-
  The walks of FireSequence, the program's and the reference's, and of the first marking.
-/
import Derived.Test.YtlppfcamlggcnaaDoorMarking
import Derived.Test.YtlppfcamlggcnaaDoorInts
import Derived.Test.YtlppfcamlggcnaaDoorCopy
import Derived.IntWalk
import Derived.Test.YtlppfcamlggcnaaDoorCore
namespace Go.Proofs.YtlppfcamlggcnaaDoor
open Go.RowKit
set_option linter.unusedVariables false
set_option linter.unusedSimpArgs false

/-- Of the first k places, each that leads to e has a token. -/
def enK (gp : List Place) (m : List Int) (e : Int) (k : Nat) : Bool := (List.range k).all fun i => decide ((gp.getD i ⟨0, 0, 0, 0⟩).dst ≠ e) || decide (0 < m.getD i 0)
def enB (gp : List Place) (m : List Int) (e : Int) : Bool := enK gp m e gp.length
theorem enK_succ (gp : List Place) (m : List Int) (e : Int) (k : Nat) (h : k < gp.length) (h2 : k < m.length) : enK gp m e (k + 1) = (enK gp m e k && (decide (gp[k].dst ≠ e) || decide (0 < m[k]))) := by
  simp [enK, List.range_succ, List.all_append, List.getD, List.getElem?_eq_getElem h, List.getElem?_eq_getElem h2]
theorem enK_false (gp : List Place) (m : List Int) (e : Int) (k n : Nat) (h : k < gp.length) (h2 : k < m.length) (hn : k < n) (h3 : gp[k].dst = e) (h4 : ¬ 0 < m[k]) : enK gp m e n = false := by
  unfold enK
  rw [List.all_eq_false]
  exact ⟨k, List.mem_range.2 hn, by simp [List.getD, List.getElem?_eq_getElem h, List.getElem?_eq_getElem h2, h3]; omega⟩
/-- The enabled ones of the first n events. -/
def enL (gp : List Place) (m : List Int) (n : Nat) : List Int := ((List.range n).map fun (i : Nat) => (i : Int)).filter (enB gp m)
theorem enL_succ (gp : List Place) (m : List Int) (n : Nat) : enL gp m (n + 1) = enL gp m n ++ if enB gp m n = true then [(n : Int)] else [] := by
  unfold enL
  rw [List.range_succ, List.map_append, List.filter_append]
  by_cases h : enB gp m n = true <;> simp [List.filter_cons, h]
theorem enL_len (gp : List Place) (m : List Int) (n : Nat) : (enL gp m n).length ≤ n := by
  unfold enL
  exact Nat.le_trans (List.length_filter_le _ _) (by simp)
theorem enL_mem (gp : List Place) (m : List Int) (n : Nat) (e : Int) : e ∈ enL gp m n ↔ (0 ≤ e ∧ e < n) ∧ enB gp m e = true := by
  unfold enL
  rw [List.mem_filter, List.mem_map]
  constructor
  · rintro ⟨⟨a, ha, rfl⟩, h⟩
    exact ⟨⟨by omega, by have := List.mem_range.1 ha; omega⟩, h⟩
  · rintro ⟨⟨h0, h1⟩, h⟩
    exact ⟨⟨e.toNat, List.mem_range.2 (by omega), by omega⟩, h⟩
/-- What EnabledIn gives. -/
def enF (ge : Int) (gp : List Place) (m : List Int) : List Int × Int :=
  if okGraph ge gp = false then ([], 1) else if okMarking gp m = false then ([], 2) else (enL gp m ge.toNat, 0)
theorem enF_len (ge : Int) (gp : List Place) (m : List Int) : (enF ge gp m).1.length ≤ 1048576 := by
  unfold enF
  cases hg : okGraph ge gp
  · simp
  · have := okGraph_ev hg
    cases hm : okMarking gp m
    · simp
    · simp only [Bool.true_eq_false, if_false]
      have := enL_len gp m ge.toNat
      omega

theorem okMarking_len {gp : List Place} {m : List Int} (h : okMarking gp m = true) : m.length = gp.length := by
  unfold okMarking at h
  simp only [Bool.and_eq_true, decide_eq_true_eq] at h
  exact h.1
theorem okMarking_in {gp : List Place} {m : List Int} (h : okMarking gp m = true) : ∀ x ∈ m, 0 ≤ x ∧ x ≤ 100 := by
  unfold okMarking allB at h
  simp only [Bool.and_eq_true, decide_eq_true_eq, List.all_eq_true, inB_iff] at h
  exact h.2
theorem okMarking_pos {gp : List Place} {m : List Int} (h : okMarking gp m = true) : ∀ x ∈ m, 0 ≤ x := fun x hx => (okMarking_in h x hx).1
end Go.Proofs.YtlppfcamlggcnaaDoor
namespace Go.Proofs.YtlppfcamlggcnaaDoor
open Go.RowKit
set_option linter.unusedVariables false
set_option linter.unusedSimpArgs false

/-- What one place holds after the event e has fired. -/
def fire1 (p : Place) (x e : Int) : Int := (if p.dst = e then x - 1 else x) + if p.src = e then 1 else 0
def fireM (gp : List Place) (m : List Int) (e : Int) : List Int := List.zipWith (fun p x => fire1 p x e) gp m
theorem fireM_len (gp : List Place) (m : List Int) (e : Int) (h : m.length = gp.length) : (fireM gp m e).length = m.length := by simp [fireM, h]
theorem fireM_get (gp : List Place) (m : List Int) (e : Int) (k : Nat) (h1 : k < gp.length) (h2 : k < m.length) (h : k < (fireM gp m e).length) : (fireM gp m e)[k] = fire1 gp[k] m[k] e := by simp [fireM]
/-- What 'fired' gives: the marking after the event, and the code. -/
def firedF (n : Nat) (gp : List Place) (m : List Int) (e : Int) : List Int × Int :=
  if (inB e 0 ((n : Int) - 1) && enB gp m e) = false then ([], 5) else if okMarking gp (fireM gp m e) = false then ([], 3) else (fireM gp m e, 0)
theorem firedF_len (n : Nat) (gp : List Place) (m : List Int) (e : Int) (h : m.length = gp.length) : (firedF n gp m e).1.length ≤ m.length := by
  unfold firedF
  split
  · simp
  · split
    · simp
    · simp [fireM]; omega
theorem hasI_enL (gp : List Place) (m : List Int) (n : Nat) (e : Int) : hasI (enL gp m n) e = (inB e 0 ((n : Int) - 1) && enB gp m e) := by
  rw [Bool.eq_iff_iff, hasI_iff, enL_mem, Bool.and_eq_true, inB_iff]
  constructor
  · rintro ⟨⟨a, b⟩, c⟩; exact ⟨⟨a, by omega⟩, c⟩
  · rintro ⟨⟨a, b⟩, c⟩; exact ⟨⟨a, by omega⟩, c⟩
/-- What FireEvent gives. -/
def fireF (ge : Int) (gp : List Place) (m : List Int) (e : Int) : List Int × Int :=
  if okGraph ge gp = false then ([], 1) else if okMarking gp m = false then ([], 2) else if inB e 0 (ge - 1) = false then ([], 2) else firedF ge.toNat gp m e
theorem fireF_len (ge : Int) (gp : List Place) (m : List Int) (e : Int) (hn : m.length ≤ 1048576) : (fireF ge gp m e).1.length ≤ 1048576 := by
  unfold fireF
  split
  · simp
  · split
    · simp
    · split
      · simp
      · rename_i h _
        have := firedF_len ge.toNat gp m e (okMarking_len (by simpa using h))
        omega
theorem fire_cases (p : Place) (x e : Int) (hx : 0 ≤ x ∧ x ≤ 100) : -1 ≤ fire1 p x e ∧ fire1 p x e ≤ 101 := by
  unfold fire1
  split <;> split <;> omega

end Go.Proofs.YtlppfcamlggcnaaDoor
namespace Go.Proofs.YtlppfcamlggcnaaDoor
open Go.RowKit
set_option linter.unusedVariables false
set_option linter.unusedSimpArgs false

def firstF (gp : List Place) : List Int := gp.map (·.tokens)
theorem firstF_len (gp : List Place) : (firstF gp).length = gp.length := by simp [firstF]
theorem firstF_get (gp : List Place) (k : Nat) (h : k < gp.length) (h2 : k < (firstF gp).length) : (firstF gp)[k] = gp[k].tokens := by simp [firstF]
theorem firstF_snoc (gp : List Place) (k : Nat) (h : k < gp.length) : firstF (gp.take (k + 1)) = firstF (gp.take k) ++ [gp[k].tokens] := by
  unfold firstF
  rw [take_succ_get _ _ h, List.map_append]
  rfl
theorem firstF_ok {ge : Int} {gp : List Place} (hok : okGraph ge gp = true) : okMarking gp (firstF gp) = true := by
  unfold okMarking allB
  simp only [Bool.and_eq_true, decide_eq_true_eq, List.all_eq_true, inB_iff]
  refine ⟨firstF_len gp, fun x hx => ?_⟩
  obtain ⟨p, hp, rfl⟩ := List.mem_map.1 hx
  have := (okGraph_place hok hp).2.2.2
  omega
/-- The marking after a list of events, and the code. -/
def seqF (n : Nat) (gp : List Place) : List Int → List Int → List Int × Int
  | m, [] => (m, 0)
  | m, e :: l => if (firedF n gp m e).2 = 0 then seqF n gp (firedF n gp m e).1 l else ([], (firedF n gp m e).2)
theorem seqF_go (n : Nat) (gp : List Place) (m l : List Int) (k : Nat) (h : k < l.length) (hz : (firedF n gp m l[k]).2 = 0) : seqF n gp m (l.drop k) = seqF n gp (firedF n gp m l[k]).1 (l.drop (k + 1)) := by
  rw [List.drop_eq_getElem_cons h]
  simp only [seqF, if_pos hz]
theorem seqF_stop (n : Nat) (gp : List Place) (m l : List Int) (k : Nat) (h : k < l.length) (hz : ¬ (firedF n gp m l[k]).2 = 0) : seqF n gp m (l.drop k) = ([], (firedF n gp m l[k]).2) := by
  rw [List.drop_eq_getElem_cons h]
  simp only [seqF, if_neg hz]
theorem firedF_zero {n : Nat} {gp : List Place} {m : List Int} {e : Int} (h : (firedF n gp m e).2 = 0) : okMarking gp (firedF n gp m e).1 = true := by
  unfold firedF at h ⊢
  split
  · rename_i h1; rw [if_pos h1] at h; cases h
  · rename_i h1
    rw [if_neg h1] at h
    split
    · rename_i h2; rw [if_pos h2] at h; cases h
    · rename_i h2; simpa using h2
theorem seqF_len (n : Nat) (gp : List Place) : ∀ (l m : List Int), m.length ≤ 1048576 → (gp.length = m.length) → (seqF n gp m l).1.length ≤ 1048576 := by
  intro l
  induction l with
  | nil => intro m h _; exact h
  | cons e l ih =>
    intro m h hg
    simp only [seqF]
    split
    · rename_i hz
      have := okMarking_len (firedF_zero hz)
      exact ih _ (by omega) this.symm
    · simp
def fireSeqF (ge : Int) (gp : List Place) (l : List Int) : List Int × Int :=
  if okGraph ge gp = false then ([], 1) else if (decide (l.length ≤ 100) && allB l 0 (ge - 1)) = false then ([], 2) else seqF ge.toNat gp (firstF gp) l
theorem fireSeqF_len (ge : Int) (gp : List Place) (l : List Int) : (fireSeqF ge gp l).1.length ≤ 1048576 := by
  unfold fireSeqF
  split
  · simp
  · rename_i hg
    split
    · simp
    · have := okGraph_len (ge := ge) (gp := gp) (by simpa using hg)
      exact seqF_len _ _ _ _ (by rw [firstF_len]; omega) (firstF_len gp).symm
end Go.Proofs.YtlppfcamlggcnaaDoor
