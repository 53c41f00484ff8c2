/-
  The earliest times of a run's firings, in plain Lean.
-/
import Derived.Test.YtlppfcamlggcnaaDoorAfterP
namespace Go.Proofs.YtlppfcamlggcnaaDoor
open Go.RowKit
set_option linter.unusedVariables false
set_option linter.unusedSimpArgs false

/-- One firing at its earliest time behind those that are there. -/
def earlS (gp : List Place) (out : List Firing) (f : Firing) : List Firing := out ++ [⟨f.event, f.number, (readyS gp (timesIn out) f.event).getD 0⟩]
def early (gp : List Place) (l : List Firing) : List Firing := l.foldl (earlS gp) []
theorem early_snoc (gp : List Place) (l : List Firing) (f : Firing) : early gp (l ++ [f]) = earlS gp (early gp l) f := by
  unfold early
  rw [List.foldl_append]
  rfl
theorem early_take (gp : List Place) (l : List Firing) (k : Nat) (h : k < l.length) : early gp (l.take (k + 1)) = earlS gp (early gp (l.take k)) l[k] := by
  rw [take_succ_get _ _ h, early_snoc]
/-- The run's events and numbers, other times. -/
theorem early_shape (gp : List Place) (r : List Firing) : (early gp r.reverse).length = r.length ∧ ∀ e, (timesIn (early gp r.reverse) e).length = (timesIn r.reverse e).length := by
  induction r with
  | nil => exact ⟨rfl, fun e => rfl⟩
  | cons f r ih =>
    rw [List.reverse_cons, early_snoc]
    unfold earlS
    refine ⟨by simp [ih.1], fun e => ?_⟩
    rw [timesIn_snoc, timesIn_snoc, List.length_append, List.length_append, ih.2 e]
    by_cases h : f.event = e <;> simp [h]
theorem early_len (gp : List Place) (l : List Firing) : (early gp l).length = l.length := by
  have := (early_shape gp l.reverse).1
  simpa using this
theorem early_cnt (gp : List Place) (l : List Firing) (e : Int) : (timesIn (early gp l) e).length = (timesIn l e).length := by
  have := (early_shape gp l.reverse).2 e
  simpa using this
/-- Whether a firing is possible hangs on the counts alone. -/
theorem readyS_some {ge : Int} {gp : List Place} (hok : okGraph ge gp = true) (T S : Int → List Int) (h : ∀ e, (T e).length = (S e).length) (e : Int) : (readyS gp T e).isSome = (readyS gp S e).isSome := by
  rw [readyS_enB hok, readyS_enB hok]
  have : markT gp T = markT gp S := by
    unfold markT
    refine List.map_congr_left fun p _ => ?_
    rw [h, h]
  rw [this]
theorem readyS_bd {ge : Int} {gp : List Place} (hok : okGraph ge gp = true) (T : Int → List Int) (c : Int) (hc : 0 ≤ c) (hT : ∀ i j, 0 ≤ (T i).getD j 0 ∧ (T i).getD j 0 ≤ c) (e : Int) : ∀ k, k ≤ gp.length → ∀ t, readyS (gp.take k) T e = some t → 0 ≤ t ∧ t ≤ c + 1000 := by
  intro k
  induction k with
  | zero => intro _ t h; simp [readyS] at h; omega
  | succ k ih =>
    intro hk t h
    rw [readyS_succ _ _ _ _ (by omega)] at h
    cases ho : readyS (gp.take k) T e with
    | none => rw [ho] at h; cases h
    | some t0 =>
      rw [ho] at h
      have h0 := ih (by omega) t0 ho
      have hp := okGraph_place hok (List.getElem_mem (show k < gp.length by omega))
      have hq := hT gp[k].src ((T e).length - gp[k].tokens.toNat)
      simp only [stepR, Option.bind_some] at h
      split at h
      · cases h; exact h0
      · split at h
        · cases h
        · cases h
          have := hp.2.2.1
          omega
/-- What the firings at their earliest times are known to be. -/
structure EarlOk (ge : Int) (c : Nat) (l : List Firing) : Prop where
  num : Numbered l
  rng : ∀ x ∈ l, (0 ≤ x.event ∧ x.event < ge) ∧ (0 ≤ x.time ∧ x.time ≤ (c : Int))
theorem EarlOk.times {ge : Int} {c : Nat} {l : List Firing} (h : EarlOk ge c l) (e : Int) (j : Nat) : 0 ≤ (timesIn l e).getD j 0 ∧ (timesIn l e).getD j 0 ≤ (c : Int) := by
  by_cases hj : j < (timesIn l e).length
  · simp only [List.getD, List.getElem?_eq_getElem hj, Option.getD_some]
    obtain ⟨x, hx, he⟩ := timesIn_mem (List.getElem_mem hj)
    rw [← he]
    exact (h.rng x hx).2
  · simp [List.getD, List.getElem?_eq_none (Nat.le_of_not_lt hj)]
theorem earl_ok {ge : Int} {gp : List Place} (hok : okGraph ge gp = true) {l : List Firing} (hr : RunOk ge l) : ∀ k, k ≤ l.length → EarlOk ge (1000 * k) (early gp (l.take k)) := by
  intro k
  induction k with
  | zero => intro _; exact ⟨fun i h => absurd h (by simp [early]), fun x h => by simp [early] at h⟩
  | succ k ih =>
    intro hk
    have h1 := ih (by omega)
    have hlt : k < l.length := by omega
    rw [early_take _ _ _ hlt]
    unfold earlS
    refine ⟨h1.num.snoc ?_, fun x hx => ?_⟩
    · show l[k].number = _
      rw [early_cnt]
      exact hr.1 k hlt
    · rcases List.mem_append.1 hx with hx | hx
      · have := h1.rng x hx
        exact ⟨this.1, by omega⟩
      · rw [List.mem_singleton.1 hx]
        refine ⟨(hr.2 _ (List.getElem_mem hlt)).1, ?_⟩
        show 0 ≤ (readyS gp (timesIn (early gp (l.take k))) l[k].event).getD 0 ∧ _
        cases hre : readyS gp (timesIn (early gp (l.take k))) l[k].event with
        | none => simp; omega
        | some t =>
          have := readyS_bd hok (timesIn (early gp (l.take k))) ((1000 * k : Nat) : Int) (by omega) (fun i j => h1.times i j) l[k].event gp.length (Nat.le_refl _) t (by rw [List.take_length]; exact hre)
          simp only [Option.getD_some]
          omega
theorem EarlOk.run {ge : Int} {c : Nat} {l : List Firing} (h : EarlOk ge c l) (hc : c ≤ 1000000) : RunOk ge l := ⟨h.num, fun x hx => by have := h.rng x hx; exact ⟨this.1, by omega⟩⟩
/-- The lateness of each firing. -/
def lateL (gp : List Place) (l : List Firing) : List Int := List.zipWith (fun f g => f.time - g.time) l (early gp l)
theorem lateL_len (gp : List Place) (l : List Firing) : (lateL gp l).length = l.length := by simp [lateL, early_len]
theorem lateL_take (gp : List Place) (l : List Firing) (k : Nat) (h : k < l.length) : lateL gp (l.take (k + 1)) = lateL gp (l.take k) ++ [l[k].time - (readyS gp (timesIn (early gp (l.take k))) l[k].event).getD 0] := by
  unfold lateL
  rw [early_take _ _ _ h, take_succ_get _ _ h]
  unfold earlS
  rw [List.zipWith_append (by rw [early_len])]
  rfl
def lateB (l : List Firing) : Bool := l.any fun f => decide (50 < f.number)
/-- What LatenessOf gives. -/
def lateF (ge : Int) (gp : List Place) (l : List Firing) : List Int × Int :=
  if okGraph ge gp = false then ([], 1) else if isRunF ge gp l = false then ([], 2) else if lateB l = true then ([], 2) else (lateL gp l, 0)
theorem lateF_len (ge : Int) (gp : List Place) (l : List Firing) : (lateF ge gp l).1.length ≤ 1048576 := by
  unfold lateF
  split
  · simp
  · split
    · simp
    · rename_i h
      split
      · simp
      · have := (isRunF_ok (ge := ge) (gp := gp) (l := l) (by simpa using h)).2
        rw [lateL_len]
        omega
/-- Each firing of a possible run can go on behind those before it. -/
theorem runK_ready {ge : Int} {gp : List Place} {l : List Firing} (h : runK ge gp l l.length = true) (k : Nat) (hk : k < l.length) : (readyS gp (timesIn (l.take k)) l[k].event).isSome = true := by
  cases hok : okFir ge gp (l.take k) l[k]
  · rw [runK_false ge gp l k hk hok] at h
    cases h
  · unfold okFir at hok
    simp only [Bool.and_eq_true] at hok
    cases hr : readyS gp (timesIn (l.take k)) l[k].event with
    | none => rw [hr] at hok; cases hok.2
    | some t => rfl
end Go.Proofs.YtlppfcamlggcnaaDoor
