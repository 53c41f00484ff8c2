/-
  Reachable markings, in plain Lean.
-/
import Derived.Test.YthamppcpjmnnkaaSeq
import Derived.Test.YthamppcpjmnnkaaMatLaw
namespace Go.Proofs.Ythamppcpjmnnkaa
open Go.RowKit
set_option linter.unusedVariables false
set_option linter.unusedSimpArgs false

/-- One event, for what is found from the marking cur on. -/
def reFire (gp : List Place) (cur : List Int) (e : Nat) (F : List (List Int)) : Option (List (List Int)) :=
  if okMarking gp (fireM gp cur (e : Int)) = false then none else if F.contains (fireM gp cur (e : Int)) = true then some F else if F.length = 300 then none else some (F ++ [fireM gp cur (e : Int)])
def reStep (gp : List Place) (cur : List Int) (o : Option (List (List Int))) (e : Nat) : Option (List (List Int)) :=
  o.bind fun F => if enB gp cur (e : Int) = false then some F else reFire gp cur e F
def reEv (gp : List Place) (n : Nat) (cur : List Int) (F : List (List Int)) : Option (List (List Int)) := (List.range n).foldl (reStep gp cur) (some F)
def reList (gp : List Place) (cur : List Int) (l : List Int) (F : List (List Int)) : Option (List (List Int)) := l.foldl (fun o (e : Int) => o.bind (reFire gp cur e.toNat)) (some F)
theorem reEv_succ (gp : List Place) (n : Nat) (cur : List Int) (F : List (List Int)) : reEv gp (n + 1) cur F = reStep gp cur (reEv gp n cur F) n := by
  unfold reEv
  rw [List.range_succ, List.foldl_append]
  rfl
theorem reList_snoc (gp : List Place) (cur : List Int) (l : List Int) (F : List (List Int)) (e : Int) : reList gp cur (l ++ [e]) F = (reList gp cur l F).bind (reFire gp cur e.toNat) := by
  unfold reList
  rw [List.foldl_append]
  rfl
theorem reEv_list (gp : List Place) (cur : List Int) (F : List (List Int)) : ∀ n, reEv gp n cur F = reList gp cur (enL gp cur n) F := by
  intro n
  induction n with
  | zero => rfl
  | succ n ih =>
    rw [reEv_succ, ih, enL_succ]
    unfold reStep
    cases h : enB gp cur (n : Int)
    · simp
    · rw [if_pos rfl, reList_snoc]
      simp
theorem foldl_bind_none {α β : Type} (f : β → α → Option β) : ∀ l : List α, l.foldl (fun o a => o.bind fun b => f b a) none = none := by
  intro l
  induction l with
  | nil => rfl
  | cons a l ih => exact ih
theorem reEv_none (gp : List Place) (cur : List Int) (F : List (List Int)) (k n : Nat) (hk : k ≤ n) (h : reEv gp k cur F = none) : reEv gp n cur F = none := by
  induction n with
  | zero => obtain rfl : k = 0 := by omega
            exact h
  | succ n ih =>
    by_cases e : k = n + 1
    · subst e; exact h
    · rw [reEv_succ, ih (by omega)]; rfl
theorem reList_none (gp : List Place) (cur : List Int) (F : List (List Int)) (l : List Int) (k : Nat) (h : reList gp cur (l.take k) F = none) : reList gp cur l F = none := by
  unfold reList at h ⊢
  rw [← List.take_append_drop k l, List.foldl_append, h]
  exact foldl_bind_none (fun F (e : Int) => reFire gp cur e.toNat F) _
/-- All that is found, from the i-th on. -/
def reAll (gp : List Place) (n : Nat) : Nat → Nat → List (List Int) → Option (List (List Int))
  | 0, _, F => some F
  | f + 1, i, F => if h : i < F.length then (reEv gp n F[i] F).bind (reAll gp n f (i + 1)) else some F
/-- What is known of the found. -/
structure ReOk (gp : List Place) (F : List (List Int)) : Prop where
  len : F.length ≤ 300
  ok : ∀ m ∈ F, okMarking gp m = true
theorem ReOk.fire {gp : List Place} {F G : List (List Int)} (h : ReOk gp F) (cur : List Int) (e : Nat) (hg : reFire gp cur e F = some G) : ReOk gp G ∧ ∃ r, G = F ++ r := by
  unfold reFire at hg
  split at hg
  · cases hg
  · rename_i h1
    split at hg
    · cases hg; exact ⟨h, [], by simp⟩
    · split at hg
      · cases hg
      · rename_i h3
        cases hg
        refine ⟨⟨by have := h.len; simp; omega, fun m hm => ?_⟩, _, rfl⟩
        rcases List.mem_append.1 hm with hm | hm
        · exact h.ok m hm
        · rw [List.mem_singleton.1 hm]; simpa using h1
theorem ReOk.ev {gp : List Place} {F : List (List Int)} (h : ReOk gp F) (cur : List Int) : ∀ n G, reEv gp n cur F = some G → ReOk gp G ∧ ∃ r, G = F ++ r := by
  intro n
  induction n with
  | zero => intro G hg; cases hg; exact ⟨h, [], by simp⟩
  | succ n ih =>
    intro G hg
    rw [reEv_succ] at hg
    cases h1 : reEv gp n cur F with
    | none => rw [h1] at hg; cases hg
    | some G1 =>
      rw [h1] at hg
      obtain ⟨h2, r, hr⟩ := ih G1 h1
      simp only [reStep, Option.bind_some] at hg
      split at hg
      · cases hg; exact ⟨h2, r, hr⟩
      · obtain ⟨h3, r2, hr2⟩ := h2.fire cur n hg
        exact ⟨h3, r ++ r2, by rw [hr2, hr, List.append_assoc]⟩
theorem ReOk.lst {gp : List Place} {F : List (List Int)} (h : ReOk gp F) (cur : List Int) (l : List Int) : ∀ k G, k ≤ l.length → reList gp cur (l.take k) F = some G → ReOk gp G ∧ ∃ r, G = F ++ r := by
  intro k
  induction k with
  | zero => intro G _ hg; cases hg; exact ⟨h, [], by simp⟩
  | succ k ih =>
    intro G hk hg
    rw [take_succ_get _ _ (by omega), reList_snoc] at hg
    cases h1 : reList gp cur (l.take k) F with
    | none => rw [h1] at hg; cases hg
    | some G1 =>
      rw [h1] at hg
      obtain ⟨h2, r, hr⟩ := ih G1 (by omega) h1
      obtain ⟨h3, r2, hr2⟩ := h2.fire cur _ hg
      exact ⟨h3, r ++ r2, by rw [hr2, hr, List.append_assoc]⟩
theorem reAll_go {gp : List Place} {n i : Nat} {F : List (List Int)} (h : ReOk gp F) (hi : i < F.length) : reAll gp n (301 - i) i F = (reEv gp n F[i] F).bind (reAll gp n (301 - (i + 1)) (i + 1)) := by
  have := h.len
  rw [show 301 - i = (301 - (i + 1)) + 1 by omega]
  simp [reAll, hi]
theorem reAll_end {gp : List Place} {n i : Nat} {F : List (List Int)} (h : ¬ i < F.length) : reAll gp n (301 - i) i F = some F := by
  cases h1 : 301 - i with
  | zero => rfl
  | succ f => simp [reAll, h]
theorem ReOk.all {gp : List Place} {n : Nat} : ∀ (f i : Nat) (F G : List (List Int)), ReOk gp F → reAll gp n f i F = some G → ReOk gp G := by
  intro f
  induction f with
  | zero => intro i F G h hg; cases hg; exact h
  | succ f ih =>
    intro i F G h hg
    simp only [reAll] at hg
    split at hg
    · rename_i hi
      cases h1 : reEv gp n F[i] F with
      | none => rw [h1] at hg; cases hg
      | some G1 =>
        rw [h1] at hg
        exact ih _ _ _ (h.ev _ _ _ h1).1 hg
    · cases hg; exact h
/-- What ReachableMarkings gives. -/
def reachF (ge : Int) (gp : List Place) : List (List Int) × Int :=
  if okGraph ge gp = false then ([], 1) else match reAll gp ge.toNat 301 0 [firstF gp] with | some F => (F, 0) | none => ([], 3)
theorem ReOk.start {ge : Int} {gp : List Place} (hok : okGraph ge gp = true) : ReOk gp [firstF gp] := ⟨by simp, fun m hm => by rw [List.mem_singleton.1 hm]; exact firstF_ok hok⟩
theorem reachF_offs (ge : Int) (gp : List Place) : offs (reachF ge gp).1 (reachF ge gp).1.length ≤ 1048576 := by
  unfold reachF
  cases hg : okGraph ge gp
  · simp [offs]
  · simp only [Bool.true_eq_false, if_false]
    cases hr : reAll gp ge.toNat 301 0 [firstF gp] with
    | none => simp [offs]
    | some F =>
      have h1 := ReOk.all _ _ _ _ (ReOk.start hg) hr
      have h2 := okGraph_len hg
      show offs F F.length ≤ 1048576
      refine Nat.le_trans (offs_rows F 30 (fun r hr => by have := okMarking_len (h1.ok r hr); omega) _ (Nat.le_refl _)) ?_
      exact Nat.le_trans (Nat.mul_le_mul_right 30 h1.len) (show 300 * 30 ≤ 1048576 by decide)
end Go.Proofs.Ythamppcpjmnnkaa
