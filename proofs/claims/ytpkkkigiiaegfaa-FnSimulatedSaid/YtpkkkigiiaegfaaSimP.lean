/-
  The simulation of a live graph, in plain Lean: the event that can go on first, again and again.
-/
import Derived.Test.YtpkkkigiiaegfaaTimP
import Derived.Test.YtpkkkigiiaegfaaLateP
namespace Go.Proofs.Ytpkkkigiiaegfaa
open Go.RowKit
set_option linter.unusedVariables false
set_option linter.unusedSimpArgs false

/-- One event looked at: the best so far and its time. -/
def stepB (gp : List Place) (T : Int → List Int) (N : Nat) (s : Int × Int) (e : Nat) : Int × Int :=
  match readyS gp T (e : Int) with
  | some t => if (T (e : Int)).length < N ∧ (s.1 < 0 ∨ t < s.2) then ((e : Int), t) else s
  | none => s
def bestK (gp : List Place) (T : Int → List Int) (N k : Nat) : Int × Int := (List.range k).foldl (stepB gp T N) (-1, 0)
theorem bestK_succ (gp : List Place) (T : Int → List Int) (N k : Nat) : bestK gp T N (k + 1) = stepB gp T N (bestK gp T N k) k := by
  unfold bestK
  rw [List.range_succ, List.foldl_append]
  rfl
theorem bestK_or (gp : List Place) (T : Int → List Int) (N : Nat) : ∀ k, (bestK gp T N k = (-1, 0) ∧ ∀ e, e < k → ¬ ((readyS gp T (e : Int)).isSome = true ∧ (T (e : Int)).length < N)) ∨ ∃ (b : Nat) (t : Int), b < k ∧ bestK gp T N k = ((b : Int), t) ∧ readyS gp T (b : Int) = some t ∧ (T (b : Int)).length < N := by
  intro k
  induction k with
  | zero => exact .inl ⟨rfl, fun e h => absurd h (Nat.not_lt_zero _)⟩
  | succ k ih =>
    rw [bestK_succ]
    cases hr : readyS gp T (k : Int) with
    | none =>
      have h1 : stepB gp T N (bestK gp T N k) k = bestK gp T N k := by unfold stepB; rw [hr]
      rw [h1]
      rcases ih with ⟨h2, h3⟩ | ⟨b, t, h2, h3, h4, h5⟩
      · refine .inl ⟨h2, fun e he => ?_⟩
        by_cases h : e = k
        · subst h; rw [hr]; simp
        · exact h3 e (by omega)
      · exact .inr ⟨b, t, by omega, h3, h4, h5⟩
    | some t0 =>
      by_cases hc : (T (k : Int)).length < N
      · rcases ih with ⟨h2, h3⟩ | ⟨b, t, h2, h3, h4, h5⟩
        · refine .inr ⟨k, t0, by omega, ?_, hr, hc⟩
          unfold stepB
          rw [hr, h2]
          exact if_pos ⟨hc, .inl (by decide)⟩
        · by_cases ht : t0 < t
          · refine .inr ⟨k, t0, by omega, ?_, hr, hc⟩
            unfold stepB
            rw [hr, h3]
            exact if_pos ⟨hc, .inr ht⟩
          · refine .inr ⟨b, t, by omega, ?_, h4, h5⟩
            unfold stepB
            rw [hr, h3]
            refine if_neg ?_
            rintro ⟨_, h | h⟩
            · exact absurd h (by show ¬ ((b : Int) < 0); omega)
            · exact ht h
      · have h1 : stepB gp T N (bestK gp T N k) k = bestK gp T N k := by unfold stepB; rw [hr]; exact if_neg (fun h => hc h.1)
        rw [h1]
        rcases ih with ⟨h2, h3⟩ | ⟨b, t, h2, h3, h4, h5⟩
        · refine .inl ⟨h2, fun e he => ?_⟩
          by_cases h : e = k
          · subst h; exact fun h => hc h.2
          · exact h3 e (by omega)
        · exact .inr ⟨b, t, by omega, h3, h4, h5⟩
/-- In a live graph one of the events that are behind can go on. -/
theorem live_ready {n : Nat} {gp : List Place} {o : List Int} (hok : okGraph n gp = true) (ho : orderF n gp = some o) (T : Int → List Int) (N : Nat) (h : ∃ e : Nat, e < n ∧ (T (e : Int)).length < N) : ∃ e : Nat, e < n ∧ (T (e : Int)).length < N ∧ (readyS gp T (e : Int)).isSome = true := by
  have hO := orderK_ok n o ho
  obtain ⟨e0, he0, hc0⟩ := h
  obtain ⟨c, ⟨e1, he1, hc1⟩, hmin⟩ := exists_min (P := fun c => ∃ e : Nat, e < n ∧ (T (e : Int)).length = c) ⟨_, e0, he0, rfl⟩
  have hle : ∀ e : Nat, e < n → c ≤ (T (e : Int)).length := fun e he => by
    apply Classical.byContradiction
    intro hh
    exact hmin _ (by omega) ⟨e, he, rfl⟩
  have hcN : c < N := by have := hle e0 he0; omega
  obtain ⟨i1, hi1, hi1e⟩ := List.getElem_of_mem (hO.all e1 he1)
  obtain ⟨i, ⟨hi, hic⟩, hfst⟩ := exists_min (P := fun i => ∃ h : i < o.length, (T o[i]).length = c) ⟨i1, hi1, by rw [hi1e]; exact hc1⟩
  have hr := hO.rng _ (List.getElem_mem hi)
  obtain ⟨e, he⟩ := Int.eq_ofNat_of_zero_le hr.1
  rw [he] at hic hr
  refine ⟨e, by omega, by omega, ?_⟩
  rw [readyS_enB hok]
  unfold enB enK
  rw [List.all_eq_true]
  intro q hq
  have hq : q < gp.length := by simpa using hq
  rw [Bool.or_eq_true]
  by_cases hd : gp[q].dst = (e : Int)
  · right
    have hp := okGraph_place hok (List.getElem_mem hq)
    have hml : q < (markT gp T).length := by rw [markT_len]; exact hq
    simp only [List.getD, List.getElem?_eq_getElem hml, Option.getD_some, decide_eq_true_eq]
    rw [markT_get gp T q hq hml, hd, hic]
    obtain ⟨s, hs⟩ := Int.eq_ofNat_of_zero_le hp.1.1
    have hsn : s < n := by have := hp.1.2; omega
    have h1 := hle s hsn
    rw [hs]
    by_cases ht : gp[q].tokens = 0
    · have hmem := hO.ord i hi _ (List.getElem_mem hq) (by rw [hd, he]) ht
      rw [hs] at hmem
      obtain ⟨j, hj, hje⟩ := List.getElem_of_mem hmem
      have hji : j < i := by simp at hj; omega
      have hjo : o[j]'(by omega) = (s : Int) := by simpa using hje
      have h2 := hfst j hji
      have h3 : ¬ (T (s : Int)).length = c := fun h => h2 ⟨by omega, by rw [hjo]; exact h⟩
      omega
    · have := hp.2.2.2.1
      omega
  · left
    simpa [List.getD, List.getElem?_eq_getElem hq] using hd
theorem ones (y : Int) : ∀ n, ((List.range n).map fun e : Nat => if y = (e : Int) then 1 else 0).sum ≤ 1 ∧ ((n : Int) ≤ y → ((List.range n).map fun e : Nat => if y = (e : Int) then 1 else 0).sum = 0) := by
  intro n
  induction n with
  | zero => simp
  | succ n ih =>
    rw [List.range_succ, List.map_append, List.sum_append]
    simp only [List.map_cons, List.map_nil, List.sum_cons, List.sum_nil, Nat.add_zero]
    by_cases h : y = (n : Int)
    · have := ih.2 (by omega)
      rw [if_pos h]
      exact ⟨by omega, fun hh => by omega⟩
    · rw [if_neg h]
      exact ⟨by have := ih.1; omega, fun hh => by have := ih.2 (by omega); omega⟩
theorem sum_add (n : Nat) (f g : Nat → Nat) : ((List.range n).map fun e => f e + g e).sum = ((List.range n).map f).sum + ((List.range n).map g).sum := by
  induction n with
  | zero => rfl
  | succ n ih =>
    rw [List.range_succ]
    simp only [List.map_append, List.sum_append, List.map_cons, List.map_nil, List.sum_cons, List.sum_nil]
    omega
theorem sum_const (n : Nat) : ((List.range n).map fun _ : Nat => 0).sum = 0 := by
  induction n with
  | zero => rfl
  | succ n ih => rw [List.range_succ]; simp only [List.map_append, List.sum_append, ih]; rfl
theorem cnt_sum (n : Nat) (r : List Firing) : ((List.range n).map fun e : Nat => (timesIn r.reverse (e : Int)).length).sum ≤ r.length := by
  induction r with
  | nil =>
    have := sum_const n
    simpa [timesIn] using this
  | cons f r ih =>
    rw [List.reverse_cons]
    have h : (fun e : Nat => (timesIn (r.reverse ++ [f]) (e : Int)).length) = fun e : Nat => (timesIn r.reverse (e : Int)).length + (if f.event = (e : Int) then 1 else 0) := by
      funext e
      rw [timesIn_snoc, List.length_append]
      by_cases h : f.event = (e : Int) <;> simp [h]
    rw [h, sum_add n (fun e : Nat => (timesIn r.reverse (e : Int)).length) (fun e : Nat => if f.event = (e : Int) then 1 else 0)]
    have := (ones f.event n).1
    simp only [List.length_cons]
    omega
theorem sum_ge (n N : Nat) (f : Nat → Nat) (h : ∀ e, e < n → N ≤ f e) : N * n ≤ ((List.range n).map f).sum := by
  induction n with
  | zero => simp
  | succ n ih =>
    rw [List.range_succ]
    simp only [List.map_append, List.sum_append, List.map_cons, List.map_nil, List.sum_cons, List.sum_nil]
    have := ih (fun e he => h e (by omega))
    have := h n (by omega)
    rw [Nat.mul_succ]
    omega
theorem behind {n N : Nat} {l : List Firing} (h : l.length < N * n) : ∃ e : Nat, e < n ∧ (timesIn l (e : Int)).length < N := by
  apply Classical.byContradiction
  intro hc
  have h1 := sum_ge n N (fun e : Nat => (timesIn l (e : Int)).length) (fun e he => by
    apply Classical.byContradiction
    intro hh
    exact hc ⟨e, he, by omega⟩)
  have h2 := cnt_sum n l.reverse
  simp only [List.reverse_reverse, List.length_reverse] at h2
  omega
/-- One firing of the event that can go on first. -/
def simS (gp : List Place) (N n : Nat) (l : List Firing) : List Firing := l ++ [⟨(bestK gp (timesIn l) N n).1, (timesIn l (bestK gp (timesIn l) N n).1).length + 1, (bestK gp (timesIn l) N n).2⟩]
def simK (gp : List Place) (N n : Nat) : Nat → List Firing
  | 0 => []
  | k + 1 => simS gp N n (simK gp N n k)
theorem simK_next (gp : List Place) (N n k : Nat) {b t : Int} (h : bestK gp (timesIn (simK gp N n k)) N n = (b, t)) : simK gp N n (k + 1) = simK gp N n k ++ [⟨b, (timesIn (simK gp N n k) b).length + 1, t⟩] := by
  simp only [simK, simS]
  rw [h]
theorem simK_len (gp : List Place) (N n : Nat) : ∀ k, (simK gp N n k).length = k := by
  intro k
  induction k with
  | zero => rfl
  | succ k ih => simp [simK, simS, ih]
theorem sim_best {n N : Nat} {gp : List Place} {o : List Int} (hok : okGraph n gp = true) (ho : orderF n gp = some o) (k : Nat) (hk : k < N * n) :
    ∃ (b : Nat) (t : Int), b < n ∧ bestK gp (timesIn (simK gp N n k)) N n = ((b : Int), t) ∧ readyS gp (timesIn (simK gp N n k)) (b : Int) = some t ∧ (timesIn (simK gp N n k) (b : Int)).length < N := by
  rcases bestK_or gp (timesIn (simK gp N n k)) N n with ⟨_, h⟩ | h
  · obtain ⟨e, he, hc, hr⟩ := live_ready hok ho (timesIn (simK gp N n k)) N (behind (by rw [simK_len]; exact hk))
    exact absurd ⟨hr, hc⟩ (h e he)
  · exact h
theorem sim_ok {n N : Nat} {gp : List Place} {o : List Int} (hok : okGraph n gp = true) (ho : orderF n gp = some o) : ∀ k, k ≤ N * n → EarlOk n (1000 * k) (simK gp N n k) ∧ ∀ e, (timesIn (simK gp N n k) e).length ≤ N := by
  intro k
  induction k with
  | zero => intro _; exact ⟨⟨fun i h => absurd h (by simp [simK]), fun x h => by simp [simK] at h⟩, fun e => by simp [simK, timesIn]⟩
  | succ k ih =>
    intro hk
    obtain ⟨h1, h2⟩ := ih (by omega)
    obtain ⟨b, t, hb, hbe, hr, hc⟩ := sim_best (N := N) hok ho k (by omega)
    have ht := readyS_bd hok (timesIn (simK gp N n k)) ((1000 * k : Nat) : Int) (by omega) (fun i j => h1.times i j) (b : Int) gp.length (Nat.le_refl _) t (by rw [List.take_length]; exact hr)
    rw [simK_next gp N n k hbe]
    refine ⟨⟨h1.num.snoc rfl, fun x hx => ?_⟩, fun e => ?_⟩
    · rcases List.mem_append.1 hx with hx | hx
      · have := h1.rng x hx
        exact ⟨this.1, by omega⟩
      · rw [List.mem_singleton.1 hx]
        exact ⟨⟨by show (0 : Int) ≤ (b : Int); omega, by show (b : Int) < (n : Int); omega⟩, by show (0 : Int) ≤ t ∧ t ≤ _; omega⟩
    · rw [timesIn_snoc, List.length_append]
      by_cases h : (b : Int) = e
      · subst h
        simp
        omega
      · simp [h]
        exact h2 e
end Go.Proofs.Ytpkkkigiiaegfaa
