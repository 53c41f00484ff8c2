/-
  Runs, in plain Lean: what IsRun says, and that the reference's search finds what the program's table holds.
-/
import Derived.Test.YtcoomogabicfnaaGreatDoorTimes
import Derived.Test.YtcoomogabicfnaaGreatDoorGraph
namespace Go.Proofs.YtcoomogabicfnaaGreatDoor
open Go.RowKit
set_option linter.unusedVariables false
set_option linter.unusedSimpArgs false

def findF (l : List Firing) (e m : Int) : Option Int := (l.find? fun f => f.event == e && f.number == m).map (·.time)
def Numbered (l : List Firing) : Prop := ∀ i (h : i < l.length), l[i].number = (timesIn (l.take i) l[i].event).length + 1
theorem Numbered.snoc {l : List Firing} {x : Firing} (h : Numbered l) (hx : x.number = (timesIn l x.event).length + 1) : Numbered (l ++ [x]) := by
  intro i hi
  by_cases e : i < l.length
  · rw [List.getElem_append_left e, List.take_append_of_le_length (by omega)]
    exact h i e
  · obtain rfl : i = l.length := by simp at hi; omega
    simp [hx]
theorem Numbered.left {l : List Firing} {x : Firing} (h : Numbered (l ++ [x])) : Numbered l ∧ x.number = (timesIn l x.event).length + 1 := by
  refine ⟨fun i hi => ?_, ?_⟩
  · have := h i (by simp; omega)
    rw [List.getElem_append_left hi, List.take_append_of_le_length (by omega)] at this
    exact this
  · have := h l.length (by simp)
    simpa using this
theorem find_snoc (l : List Firing) (x : Firing) (e m : Int) : findF (l ++ [x]) e m = match findF l e m with | some t => some t | none => if x.event = e ∧ x.number = m then some x.time else none := by
  unfold findF
  rw [List.find?_append]
  cases h : l.find? (fun f => f.event == e && f.number == m) with
  | some y => simp
  | none =>
    by_cases c : x.event = e ∧ x.number = m
    · simp [c.1, c.2]
    · rw [if_neg c]
      have : (x.event == e && x.number == m) = false := by
        cases hb : (x.event == e && x.number == m)
        · rfl
        · simp at hb; exact absurd hb c
      simp [this]
theorem find_numbered (r : List Firing) : ∀ (hN : Numbered r.reverse) (e : Int) (m : Nat), 1 ≤ m → findF r.reverse e m = if m ≤ (timesIn r.reverse e).length then some ((timesIn r.reverse e).getD (m - 1) 0) else none := by
  induction r with
  | nil => intro _ e m hm; simp [findF, timesIn]; omega
  | cons x r ih =>
    intro hN e m hm
    rw [List.reverse_cons] at hN ⊢
    obtain ⟨h1, h2⟩ := hN.left
    rw [find_snoc, ih h1 e m hm, timesIn_snoc]
    by_cases hle : m ≤ (timesIn r.reverse e).length
    · have hle2 : m ≤ (timesIn r.reverse e ++ if x.event = e then [x.time] else []).length := by rw [List.length_append]; omega
      rw [if_pos hle, if_pos hle2]
      simp only [List.getD]
      rw [List.getElem?_append_left (by omega)]
    · rw [if_neg hle]
      by_cases he : x.event = e
      · subst he
        by_cases hm2 : m = (timesIn r.reverse x.event).length + 1
        · rw [if_pos ⟨rfl, by rw [h2, hm2]; simp⟩, if_pos rfl, if_pos (by simp; omega)]
          have : m - 1 = (timesIn r.reverse x.event).length := by omega
          simp [this]
        · rw [if_neg (by rintro ⟨_, h⟩; rw [h2] at h; omega), if_pos rfl, if_neg (by simp; omega)]
      · rw [if_neg (by rintro ⟨h, _⟩; exact he h), if_neg he, if_neg (by simpa using hle)]
theorem find_num {l : List Firing} (hN : Numbered l) (e : Int) (m : Nat) (hm : 1 ≤ m) : findF l e m = if m ≤ (timesIn l e).length then some ((timesIn l e).getD (m - 1) 0) else none := by
  have := find_numbered l.reverse (by simpa using hN) e m hm
  simpa using this
theorem max_if2 (a b : Int) : max a b = if a < b then b else a := by by_cases h : a < b <;> simp [h] <;> omega
/-- One place, for the earliest time of the next firing of e. -/
def stepR (T : Int → List Int) (e : Int) (o : Option Int) (p : Place) : Option Int :=
  o.bind fun t => if p.dst ≠ e ∨ ((T e).length : Int) + 1 ≤ p.tokens then some t else
    if (T p.src).length < (T e).length + 1 - p.tokens.toNat then none else some (max t ((T p.src).getD ((T e).length - p.tokens.toNat) 0 + p.delay))
def readyS (gp : List Place) (T : Int → List Int) (e : Int) : Option Int := gp.foldl (stepR T e) (some 0)
theorem readyS_succ (gp : List Place) (T : Int → List Int) (e : Int) (k : Nat) (h : k < gp.length) : readyS (gp.take (k + 1)) T e = stepR T e (readyS (gp.take k) T e) gp[k] := by
  unfold readyS
  rw [take_succ_get _ _ h, List.foldl_append]
  rfl
theorem stepR_none (T : Int → List Int) (e : Int) : ∀ l : List Place, l.foldl (stepR T e) none = none := by
  intro l
  induction l with
  | nil => rfl
  | cons a l ih => exact ih
theorem readyS_none (gp : List Place) (T : Int → List Int) (e : Int) (k : Nat) (h : readyS (gp.take k) T e = none) : readyS gp T e = none := by
  unfold readyS at h ⊢
  rw [← List.take_append_drop k gp, List.foldl_append, h, stepR_none]
theorem readyS_congr (gp : List Place) (T S : Int → List Int) (e : Int) (h : T e = S e) (hp : ∀ p ∈ gp, T p.src = S p.src) : readyS gp T e = readyS gp S e := by
  unfold readyS
  suffices h2 : ∀ o, gp.foldl (stepR T e) o = gp.foldl (stepR S e) o from h2 _
  induction gp with
  | nil => intro o; rfl
  | cons a l ih =>
    intro o
    simp only [List.foldl_cons]
    have : stepR T e o a = stepR S e o a := by unfold stepR; rw [h, hp a (by simp)]
    rw [this]
    exact ih (fun p hp' => hp p (by simp [hp'])) _
def lastT (l : List Firing) : Int := (l.getLast?.map (·.time)).getD 0
def okFir (ge : Int) (gp : List Place) (b : List Firing) (f : Firing) : Bool :=
  inB f.event 0 (ge - 1) && decide (f.number = (timesIn b f.event).length + 1) && inB f.time 0 1000000 && decide (lastT b ≤ f.time) && (match readyS gp (timesIn b) f.event with | some t => decide (t ≤ f.time) | none => false)
def runK (ge : Int) (gp : List Place) (l : List Firing) (k : Nat) : Bool := (List.range k).all fun i => okFir ge gp (l.take i) (l.getD i ⟨0, 0, 0⟩)
theorem runK_succ (ge : Int) (gp : List Place) (l : List Firing) (k : Nat) (h : k < l.length) : runK ge gp l (k + 1) = (runK ge gp l k && okFir ge gp (l.take k) l[k]) := by
  unfold runK
  rw [List.range_succ, List.all_append]
  simp [List.getD, List.getElem?_eq_getElem h]
theorem runK_false (ge : Int) (gp : List Place) (l : List Firing) (k : Nat) (h : k < l.length) (hf : okFir ge gp (l.take k) l[k] = false) : runK ge gp l l.length = false := by
  unfold runK
  rw [List.all_eq_false]
  exact ⟨k, by simpa using h, by simp [List.getD, List.getElem?_eq_getElem h, hf]⟩
def isRunF (ge : Int) (gp : List Place) (l : List Firing) : Bool := okGraph ge gp && decide (l.length ≤ 500) && runK ge gp l l.length
/-- What the firings of a run are known to be. -/
def RunOk (ge : Int) (l : List Firing) : Prop := Numbered l ∧ ∀ x ∈ l, (0 ≤ x.event ∧ x.event < ge) ∧ (0 ≤ x.time ∧ x.time ≤ 1000000)
theorem RunOk.nil (ge : Int) : RunOk ge [] := ⟨fun i h => absurd h (by simp), fun x h => absurd h (by simp)⟩
theorem RunOk.snoc {ge : Int} {l : List Firing} {x : Firing} {gp : List Place} (h : RunOk ge l) (hx : okFir ge gp l x = true) : RunOk ge (l ++ [x]) := by
  unfold okFir at hx
  simp only [Bool.and_eq_true, decide_eq_true_eq] at hx
  obtain ⟨⟨⟨⟨h1, h2⟩, h3⟩, _⟩, _⟩ := hx
  have e1 := (inB_iff _ _ _).1 h1
  have e3 := (inB_iff _ _ _).1 h3
  refine ⟨h.1.snoc h2, fun y hy => ?_⟩
  rcases List.mem_append.1 hy with hy | hy
  · exact h.2 y hy
  · rw [List.mem_singleton.1 hy]
    exact ⟨⟨e1.1, by omega⟩, e3⟩
theorem lastT_snoc (l : List Firing) (x : Firing) : lastT (l ++ [x]) = x.time := by simp [lastT]
theorem lastT_nonneg {ge : Int} {l : List Firing} (h : RunOk ge l) : 0 ≤ lastT l ∧ lastT l ≤ 1000000 := by
  unfold lastT
  cases hl : l.getLast? with
  | none => simp
  | some x => exact (h.2 x (List.mem_of_getLast? hl)).2
theorem timesIn_mem {l : List Firing} {e t : Int} (h : t ∈ timesIn l e) : ∃ x ∈ l, x.time = t := by
  unfold timesIn at h
  obtain ⟨x, hx, rfl⟩ := List.mem_map.1 h
  exact ⟨x, (List.mem_filter.1 hx).1, rfl⟩
theorem times_range {ge : Int} {l : List Firing} (h : RunOk ge l) (e : Int) (j : Nat) : 0 ≤ (timesIn l e).getD j 0 ∧ (timesIn l e).getD j 0 ≤ 1000000 := by
  by_cases hj : j < (timesIn l e).length
  · simp only [List.getD, List.getElem?_eq_getElem hj, Option.getD_some]
    obtain ⟨x, hx, he⟩ := timesIn_mem (List.getElem_mem hj)
    rw [← he]
    exact (h.2 x hx).2
  · simp [List.getD, List.getElem?_eq_none (Nat.le_of_not_lt hj)]
theorem find_app (l r : List Firing) (e m t : Int) (h : findF l e m = some t) : findF (l ++ r) e m = some t := by
  unfold findF at h ⊢
  rw [List.find?_append]
  cases hf : l.find? (fun f => f.event == e && f.number == m) with
  | none => rw [hf] at h; cases h
  | some y => rw [hf] at h; simpa using h
theorem find_hit (l : List Firing) (e m : Int) (k : Nat) (h : k < l.length) (hn : findF (l.take k) e m = none) (h1 : l[k].event = e) (h2 : l[k].number = m) : findF l e m = some l[k].time := by
  have h3 : findF (l.take (k + 1)) e m = some l[k].time := by rw [take_succ_get _ _ h, find_snoc, hn]; simp [h1, h2]
  have := find_app _ (l.drop (k + 1)) e m _ h3
  rwa [List.take_append_drop] at this
theorem find_next (l : List Firing) (e m : Int) (k : Nat) (h : k < l.length) (hn : findF (l.take k) e m = none) (h1 : ¬ (l[k].event = e ∧ l[k].number = m)) : findF (l.take (k + 1)) e m = none := by
  rw [take_succ_get _ _ h, find_snoc, hn]
  simp only
  rw [if_neg h1]
theorem readyS_le {ge : Int} {gp : List Place} {l : List Firing} (hok : okGraph ge gp = true) (hr : RunOk ge l) (e : Int) (k : Nat) (hk : k ≤ gp.length) (t : Int) (h : readyS (gp.take k) (timesIn l) e = some t) : 0 ≤ t ∧ t ≤ 1001000 := by
  induction k generalizing t with
  | zero => simp [readyS] at h; omega
  | succ k ih =>
    rw [readyS_succ _ _ _ _ (by omega)] at h
    cases ho : readyS (gp.take k) (timesIn l) e with
    | none => rw [ho] at h; cases h
    | some t0 =>
      rw [ho] at h
      have h0 := ih (by omega) t0 ho
      have hp := okGraph_place hok (List.getElem_mem (show k < gp.length by omega))
      have hq := times_range hr gp[k].src ((timesIn l e).length - gp[k].tokens.toNat)
      simp only [stepR, Option.bind_some] at h
      split at h
      · cases h; exact h0
      · split at h
        · cases h
        · cases h
          have := hp.2.2.1
          omega
end Go.Proofs.YtcoomogabicfnaaGreatDoor
