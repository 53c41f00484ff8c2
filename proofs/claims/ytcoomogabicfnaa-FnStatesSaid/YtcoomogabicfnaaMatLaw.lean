/-
  The laws' words for lists of lists of numbers.
-/
import Derived.Test.YtcoomogabicfnaaMat
import Derived.Test.YtcoomogabicfnaaEqs
namespace Go.Proofs.Ytcoomogabicfnaa
open Go.RowKit
set_option linter.unusedVariables false
set_option linter.unusedSimpArgs false

/-- The numbers in the first j lists. -/
def offs (M : List (List Int)) (j : Nat) : Nat := ((M.take j).map List.length).sum
theorem offs_succ (M : List (List Int)) (j : Nat) (h : j < M.length) : offs M (j + 1) = offs M j + M[j].length := by
  unfold offs
  rw [take_succ_get _ _ h, List.map_append, List.sum_append]
  simp only [List.map_cons, List.map_nil, List.sum_cons, List.sum_nil, Nat.add_zero]
theorem offs_le (M : List (List Int)) (j : Nat) : ∀ n, j ≤ n → n ≤ M.length → offs M j ≤ offs M n := by
  intro n
  induction n with
  | zero => intro h _; rw [Nat.le_zero.1 h]; exact Nat.le_refl _
  | succ n ih =>
    intro h hn
    by_cases e : j = n + 1
    · rw [e]; exact Nat.le_refl _
    · have := ih (by omega) (by omega)
      have := offs_succ M n (by omega)
      omega
theorem offs_rows (M : List (List Int)) (c : Nat) (h : ∀ r ∈ M, r.length ≤ c) : ∀ j, j ≤ M.length → offs M j ≤ j * c := by
  intro j
  induction j with
  | zero => intro _; simp [offs]
  | succ j ih =>
    intro hj
    have h1 := ih (by omega)
    have h2 := h M[j] (List.getElem_mem (by omega))
    rw [offs_succ M j (by omega), Nat.add_mul]
    omega
def rowMark (k : Int) (M : List (List Int)) (i : Nat) : List Int := marksInt64 (k + offs M i) (M.getD i []).length
def mksM (k : Int) (M : List (List Int)) (j : Nat) : List (List Int) := (List.range j).map (rowMark k M)
theorem mksM_len (k : Int) (M : List (List Int)) (j : Nat) : (mksM k M j).length = j := by simp [mksM]
theorem mksM_get (k : Int) (M : List (List Int)) (j i : Nat) (h : i < (mksM k M j).length) (hi : i < M.length) : (mksM k M j)[i] = marksInt64 (k + offs M i) M[i].length := by
  simp [mksM, rowMark, List.getD, List.getElem?_eq_getElem hi]
theorem mksM_step (k : Int) (j : Nat) (M : List (List Int)) (h : j < M.length) : (mksM k M j ++ M.drop j).set j (marksInt64 (k + offs M j) M[j].length) = mksM k M (j + 1) ++ M.drop (j + 1) := by
  rw [List.set_append_right _ _ (by simp [mksM_len])]
  have e : j - (mksM k M j).length = 0 := by simp [mksM_len]
  rw [e, List.drop_eq_getElem_cons h, List.set_cons_zero]
  simp [mksM, rowMark, List.range_succ, List.getD, List.getElem?_eq_getElem h]
theorem mksM_at (k : Int) (j : Nat) (M : List (List Int)) (h : j < M.length) (h2 : j < (mksM k M j ++ M.drop j).length) : (mksM k M j ++ M.drop j)[j] = M[j] := by
  rw [List.getElem_append_right (by simp [mksM_len])]
  simp [mksM_len]
/-- What reads as M below B, at any later time. -/
def KeptM (w : World) (B : Nat) (u : Value) (M : List (List Int)) : Prop := LstM w B u M ∧ B ≤ w.heap.size
section
variable {w w' : World} {B base : Nat} {u : Value} {M : List (List Int)}
theorem LstM.more {B' : Nat} (h : LstM w B u M) (hb : B ≤ B') : LstM w B' u M := by
  obtain ⟨rs, hl, hO, hR⟩ := h
  exact ⟨rs, hl, hO.more hb, fun i h1 h2 => (hR i h1 h2).more hb⟩
theorem LstM.below {B' : Nat} (h : LstM w B u M) (hb : Below B' w w') (hB : B ≤ B') : LstM w' B u M := by
  obtain ⟨rs, hl, hO, hR⟩ := h
  exact ⟨rs, hl, hO.below hb hB, fun i h1 h2 => (hR i h1 h2).below hb hB⟩
theorem OwnM.kept (h : OwnM w base u M) : KeptM w w.heap.size u M := ⟨h.lst, Nat.le_refl _⟩
theorem KeptM.lst (h : KeptM w B u M) : LstM w w.heap.size u M := h.1.more h.2
theorem KeptM.now (h : KeptM w B u M) (hb : Below w.heap.size w w') : KeptM w' B u M := ⟨h.1.below hb h.2, Nat.le_trans h.2 hb.size⟩
theorem KeptM.below {B' : Nat} (h : KeptM w B u M) (hb : Below B' w w') (hB : B ≤ B') : KeptM w' B u M := ⟨h.1.below hb hB, Nat.le_trans h.2 hb.size⟩
theorem KeptM.far (h : KeptM w B u M) {r : Option Nat} (hG : w.grownBy w' r) (hr : ∀ k, r = some k → B ≤ k) : KeptM w' B u M :=
  h.below ⟨hG.os, hG.tape, hG.output, hG.size, fun g hg => hG.block g (Nat.lt_of_lt_of_le hg h.2) (by intro e; have := hr g e.symm; omega)⟩ (Nat.le_refl _)
theorem OwnM.far (h : OwnM w base u M) {r : Option Nat} (hG : w.grownBy w' r) (hr : ∀ k, r = some k → k < base) : OwnM w' base u M := by
  cases r with
  | some k => exact h.grown hG (hr k rfl)
  | none =>
    obtain ⟨rs, hl, hO, hR, hD⟩ := h
    exact ⟨rs, hl, own_kept (u := .slice none 0 0) hO hG (fun k _ b => by cases b), fun i h1 h2 => own_kept (u := .slice none 0 0) (hR i h1 h2) hG (fun k _ b => by cases b), hD⟩
end
theorem cell_under {w w' : World} {B : Nat} {p : Addr} {v : Value} (h : w.cell? p = some v) (hb : Below B w w') (hp : p.block < B) : w'.cell? p = some v := (hb.cell hp).trans h
end Go.Proofs.Ytcoomogabicfnaa
