/-
  A simulated run is a run, at the times of the table, and leaves the marking as it was: plain Lean, no program in sight.
-/
import Derived.Test.YtpkkkigiiaegfaaFixP
import Derived.Test.YtpkkkigiiaegfaaSimP
import Derived.Test.YtpkkkigiiaegfaaAfterP
import Derived.Test.YtpkkkigiiaegfaaTimT
import Derived.Test.YtpkkkigiiaegfaaSim
namespace Go.Proofs.Ytpkkkigiiaegfaa
open Go.RowKit
set_option linter.unusedVariables false
set_option linter.unusedSimpArgs false
theorem bestK_min (gp : List Place) (T : Int → List Int) (N : Nat) : ∀ k e : Nat, e < k → ∀ te, readyS gp T (e : Int) = some te → (T (e : Int)).length < N → 0 ≤ (bestK gp T N k).1 ∧ (bestK gp T N k).2 ≤ te := by
  intro k
  induction k with
  | zero => intro e he; exact absurd he (Nat.not_lt_zero _)
  | succ k ih =>
    intro e he te hr hc
    rw [bestK_succ]
    cases hk : readyS gp T (k : Int) with
    | none =>
      have h1 : stepB gp T N (bestK gp T N k) k = bestK gp T N k := by unfold stepB; rw [hk]
      rw [h1]
      have hne : e ≠ k := by rintro rfl; rw [hk] at hr; cases hr
      exact ih e (by omega) te hr hc
    | some t0 =>
      by_cases hcond : (T (k : Int)).length < N ∧ ((bestK gp T N k).1 < 0 ∨ t0 < (bestK gp T N k).2)
      · have h1 : stepB gp T N (bestK gp T N k) k = ((k : Int), t0) := by unfold stepB; rw [hk]; exact if_pos hcond
        rw [h1]
        refine ⟨by show (0 : Int) ≤ (k : Int); omega, ?_⟩
        show t0 ≤ te
        by_cases hek : e = k
        · subst hek
          rw [hk] at hr
          cases hr
          exact Int.le_refl _
        · have := ih e (by omega) te hr hc
          rcases hcond.2 with h | h
          · omega
          · omega
      · have h1 : stepB gp T N (bestK gp T N k) k = bestK gp T N k := by unfold stepB; rw [hk]; exact if_neg hcond
        rw [h1]
        by_cases hek : e = k
        · subst hek
          rw [hk] at hr
          cases hr
          exact ⟨by apply Classical.byContradiction; intro h; exact hcond ⟨hc, .inl (by omega)⟩, by apply Classical.byContradiction; intro h; exact hcond ⟨hc, .inr (by omega)⟩⟩
        · exact ih e (by omega) te hr hc
/-- What the table says is what is ready. -/
theorem readyS_fix {ge : Int} {gp : List Place} (hok : okGraph ge gp = true) (S : Int → List Int) (G : Nat → Nat → Int) (hG : ∀ q j : Nat, j < (S (q : Int)).length → (S (q : Int)).getD j 0 = G j q) (e : Nat) : ∀ k, k ≤ gp.length → ∀ t, readyS (gp.take k) S (e : Int) = some t → t = fixK (gp.take k) G (S (e : Int)).length e 0 := by
  intro k
  induction k with
  | zero => intro _ t h; simp [readyS] at h; simp [fixK]; omega
  | succ k ih =>
    intro hk t h
    rw [readyS_succ _ _ _ _ (by omega)] at h
    rw [fixK_succ _ _ _ _ _ _ (by omega)]
    cases ho : readyS (gp.take k) S (e : Int) with
    | none => rw [ho] at h; cases h
    | some t0 =>
      rw [ho] at h
      have h0 := ih (by omega) t0 ho
      have hp := okGraph_place hok (List.getElem_mem (show k < gp.length by omega))
      simp only [stepR, Option.bind_some] at h
      unfold stepK
      split at h
      · rename_i hc
        cases h
        rw [if_neg (by rintro ⟨h1, h2⟩; rcases hc with hc | hc; exact hc h1; omega)]
        exact h0
      · rename_i hc
        split at h
        · cases h
        · rename_i hl
          cases h
          have hd : gp[k].dst = (e : Int) := by apply Classical.byContradiction; intro hh; exact hc (.inl hh)
          have ht : gp[k].tokens ≤ ((S (e : Int)).length : Int) := by apply Classical.byContradiction; intro hh; exact hc (.inr (by omega))
          rw [if_pos ⟨hd, ht⟩, ← h0]
          have h1 : ((gp[k].src.toNat : Nat) : Int) = gp[k].src := by have := hp.1.1; omega
          have h2 := hG gp[k].src.toNat ((S (e : Int)).length - gp[k].tokens.toNat) (by rw [h1]; have := hp.2.2.2.1; omega)
          rw [h1] at h2
          rw [h2]
/-- Each list of times goes up. -/
def Up (l : List Int) : Prop := ∀ i j, i ≤ j → j < l.length → l.getD i 0 ≤ l.getD j 0
/-- The lists of times with one more firing of b at t. -/
structure Nx (S S' : Int → List Int) (b : Int) (t : Int) : Prop where
  own : S' b = S b ++ [t]
  oth : ∀ e, e ≠ b → S' e = S e
theorem Nx.old {S S' : Int → List Int} {b t : Int} (h : Nx S S' b t) (q : Int) (i : Nat) (hi : i < (S q).length) : (S' q).getD i 0 = (S q).getD i 0 := by
  by_cases hq : q = b
  · subst hq
    rw [h.own]
    simp [List.getD, List.getElem?_append_left hi]
  · rw [h.oth q hq]
theorem next_self {ge : Int} {gp : List Place} (hok : okGraph ge gp = true) {S S' : Int → List Int} {b t : Int} (h : Nx S S' b t) (hup : ∀ e, Up (S' e)) : ∀ k, k ≤ gp.length → ∀ s s', readyS (gp.take k) S b = some s → readyS (gp.take k) S' b = some s' → s ≤ s' := by
  intro k
  induction k with
  | zero => intro _ s s' h1 h2; simp [readyS] at h1 h2; omega
  | succ k ih =>
    intro hk s s' h1 h2
    rw [readyS_succ _ _ _ _ (by omega)] at h1 h2
    cases ho : readyS (gp.take k) S b with
    | none => rw [ho] at h1; cases h1
    | some s0 =>
      cases ho' : readyS (gp.take k) S' b with
      | none => rw [ho'] at h2; cases h2
      | some s0' =>
        rw [ho] at h1
        rw [ho'] at h2
        have h0 := ih (by omega) s0 s0' ho ho'
        have hp := okGraph_place hok (List.getElem_mem (show k < gp.length by omega))
        have hl : (S' b).length = (S b).length + 1 := by rw [h.own]; simp
        simp only [stepR, Option.bind_some, hl] at h1 h2
        split at h1
        · cases h1
          split at h2
          · cases h2; exact h0
          · split at h2
            · cases h2
            · cases h2; omega
        · rename_i hc1
          split at h1
          · cases h1
          · rename_i hn1
            cases h1
            split at h2
            · rename_i hc2
              exfalso
              rcases hc2 with hc2 | hc2
              · exact hc1 (.inl hc2)
              · exact hc1 (.inr (by omega))
            · split at h2
              · cases h2
              · rename_i hn2
                cases h2
                have ht : gp[k].tokens ≤ ((S b).length : Int) := by apply Classical.byContradiction; intro hh; exact hc1 (.inr (by omega))
                have htk := hp.2.2.2.1
                have e1 := h.old gp[k].src ((S b).length - gp[k].tokens.toNat) (by omega)
                have e2 := hup gp[k].src ((S b).length - gp[k].tokens.toNat) ((S b).length + 1 - gp[k].tokens.toNat) (by omega) (by omega)
                omega
theorem next_other {ge : Int} {gp : List Place} (hok : okGraph ge gp = true) {S S' : Int → List Int} {b t : Int} (h : Nx S S' b t) {e : Int} (he : e ≠ b) : ∀ k, k ≤ gp.length → ∀ s', readyS (gp.take k) S' e = some s' → readyS (gp.take k) S e = some s' ∨ t ≤ s' := by
  intro k
  induction k with
  | zero => intro _ s' h2; exact .inl h2
  | succ k ih =>
    intro hk s' h2
    rw [readyS_succ _ _ _ _ (by omega)] at h2 ⊢
    cases ho' : readyS (gp.take k) S' e with
    | none => rw [ho'] at h2; cases h2
    | some s0' =>
      rw [ho'] at h2
      have h0 := ih (by omega) s0' ho'
      have hp := okGraph_place hok (List.getElem_mem (show k < gp.length by omega))
      have hl : (S' e).length = (S e).length := by rw [h.oth e he]
      simp only [stepR, Option.bind_some, hl] at h2
      split at h2
      · rename_i hc
        cases h2
        rcases h0 with h0 | h0
        · left
          rw [h0]
          simp only [stepR, Option.bind_some]
          rw [if_pos hc]
        · exact .inr h0
      · rename_i hc
        split at h2
        · cases h2
        · rename_i hn
          cases h2
          have htk := hp.2.2.2.1
          have ht : gp[k].tokens ≤ ((S e).length : Int) := by apply Classical.byContradiction; intro hh; exact hc (.inr (by omega))
          by_cases hs : (S gp[k].src).length < (S e).length + 1 - gp[k].tokens.toNat
          · right
            have hsb : gp[k].src = b := by apply Classical.byContradiction; intro hh; rw [h.oth _ hh] at hn; exact hn hs
            have hlb : (S' gp[k].src).length = (S gp[k].src).length + 1 := by rw [hsb, h.own]; simp
            have hidx : (S e).length - gp[k].tokens.toNat = (S b).length := by rw [hsb] at hs hlb hn; omega
            have hv : (S' gp[k].src).getD ((S e).length - gp[k].tokens.toNat) 0 = t := by
              rw [hsb, h.own, hidx]
              simp [List.getD]
            rw [hv]
            have := hp.2.2.1.1
            omega
          · rw [h.old _ _ (by omega)]
            rcases h0 with h0 | h0
            · left
              rw [h0]
              simp only [stepR, Option.bind_some]
              rw [if_neg hc, if_neg hs]
            · right
              omega
/-- What holds while the simulation runs. -/
structure SimOk (n N : Nat) (gp : List Place) (l : List Firing) : Prop where
  last : ∀ x ∈ l, x.time ≤ lastT l
  nn : 0 ≤ lastT l
  up : ∀ e, Up (timesIn l e)
  rdy : ∀ e : Nat, e < n → ∀ te, readyS gp (timesIn l) (e : Int) = some te → (timesIn l (e : Int)).length < N → lastT l ≤ te
theorem SimOk.zero {n N : Nat} {gp : List Place} (hok : okGraph n gp = true) : SimOk n N gp [] := by
  refine ⟨by simp, by simp [lastT], fun e i j _ h => by simp [timesIn] at h, fun e he te hr hc => ?_⟩
  have := readyS_bd hok (timesIn []) 0 (Int.le_refl _) (fun i j => by simp [timesIn]) (e : Int) gp.length (Nat.le_refl _) te (by rw [List.take_length]; exact hr)
  simp only [lastT, List.getLast?_nil, Option.map_none, Option.getD_none]
  omega
theorem nx_snoc (l : List Firing) (x : Firing) : Nx (timesIn l) (timesIn (l ++ [x])) x.event x.time := by
  refine ⟨by rw [timesIn_snoc, if_pos rfl], fun e he => by rw [timesIn_snoc, if_neg (Ne.symm he), List.append_nil]⟩
theorem Up.snoc {l : List Int} {t : Int} (h : Up l) (ht : ∀ x ∈ l, x ≤ t) : Up (l ++ [t]) := by
  intro i j hij hj
  by_cases h1 : j < l.length
  · simp only [List.getD, List.getElem?_append_left h1, List.getElem?_append_left (show i < l.length by omega)]
    exact h i j hij h1
  · obtain rfl : j = l.length := by simp at hj; omega
    by_cases h2 : i < l.length
    · simp only [List.getD, List.getElem?_append_left h2, List.getElem?_eq_getElem h2, Option.getD_some]
      have := ht _ (List.getElem_mem h2)
      simpa using this
    · obtain rfl : i = l.length := by omega
      exact Int.le_refl _
theorem SimOk.step {n N : Nat} {gp : List Place} (hok : okGraph n gp = true) {l : List Firing} (h : SimOk n N gp l) {b num : Nat} {t : Int} (hb : b < n) (hbe : bestK gp (timesIn l) N n = ((b : Int), t)) (hr : readyS gp (timesIn l) (b : Int) = some t) (hc : (timesIn l (b : Int)).length < N) :
    SimOk n N gp (l ++ [⟨(b : Int), (num : Int), t⟩]) ∧ lastT l ≤ t := by
  have hle := h.rdy b hb t hr hc
  have hnx : Nx (timesIn l) (timesIn (l ++ [⟨(b : Int), (num : Int), t⟩])) (b : Int) t := nx_snoc l ⟨(b : Int), (num : Int), t⟩
  have hall : ∀ e, ∀ x ∈ timesIn l e, x ≤ t := fun e x hx => by
    obtain ⟨f, hf, rfl⟩ := timesIn_mem hx
    have := h.last f hf
    omega
  have hup : ∀ e, Up (timesIn (l ++ [⟨(b : Int), (num : Int), t⟩]) e) := fun e => by
    by_cases he : e = (b : Int)
    · subst he
      rw [hnx.own]
      exact (h.up _).snoc (hall _)
    · rw [hnx.oth e he]
      exact h.up e
  refine ⟨⟨fun x hx => ?_, ?_, hup, fun e he te hre hce => ?_⟩, hle⟩
  · rw [lastT_snoc]
    rcases List.mem_append.1 hx with hx | hx
    · have := h.last x hx
      show x.time ≤ t
      omega
    · rw [List.mem_singleton.1 hx]
      exact Int.le_refl _
  · rw [lastT_snoc]
    have := h.nn
    show (0 : Int) ≤ t
    omega
  · rw [lastT_snoc]
    show t ≤ te
    by_cases heb : (e : Int) = (b : Int)
    · rw [heb] at hre
      have := next_self hok hnx hup gp.length (Nat.le_refl _) t te (by rw [List.take_length]; exact hr) (by rw [List.take_length]; exact hre)
      exact this
    · rcases next_other hok hnx heb gp.length (Nat.le_refl _) te (by rw [List.take_length]; exact hre) with h1 | h1
      · rw [List.take_length] at h1
        rw [hnx.oth _ heb] at hce
        have := (bestK_min gp (timesIn l) N n e he te h1 hce).2
        rw [hbe] at this
        exact this
      · exact h1
theorem simK_take (gp : List Place) (N n : Nat) : ∀ K k, k ≤ K → (simK gp N n K).take k = simK gp N n k := by
  intro K
  induction K with
  | zero => intro k hk; (obtain rfl : k = 0 := by omega); simp [simK]
  | succ K ih =>
    intro k hk
    by_cases h : k = K + 1
    · subst h
      exact List.take_of_length_le (by rw [simK_len]; exact Nat.le_refl _)
    · have hk2 : k ≤ K := by omega
      simp only [simK, simS]
      rw [List.take_append_of_le_length (by rw [simK_len]; exact hk2)]
      exact ih k hk2
theorem simK_at {gp : List Place} {N n K k : Nat} (hk : k < K) (h : k < (simK gp N n K).length) {x : Firing} (hx : simK gp N n (k + 1) = simK gp N n k ++ [x]) : (simK gp N n K)[k] = x := by
  have h1 := take_succ_get (simK gp N n K) k h
  rw [simK_take _ _ _ _ _ hk, simK_take _ _ _ _ _ (Nat.le_of_lt hk), hx] at h1
  have h2 := List.append_cancel_left h1
  injection h2 with h3
  exact h3.symm
/-- Each step of the simulation: what is fired, and that it may be. -/
theorem sim_steps {n N : Nat} {gp : List Place} {o : List Int} (hok : okGraph n gp = true) (ho : orderF n gp = some o) : ∀ k, k ≤ N * n →
    SimOk n N gp (simK gp N n k) ∧ ∀ q j : Nat, j < (timesIn (simK gp N n k) (q : Int)).length → (timesIn (simK gp N n k) (q : Int)).getD j 0 = getT (timT gp o (zeros n) N) j q := by
  intro k
  induction k with
  | zero => intro _; exact ⟨SimOk.zero hok, fun q j h => by simp [simK, timesIn] at h⟩
  | succ k ih =>
    intro hk
    obtain ⟨h1, h2⟩ := ih (by omega)
    obtain ⟨b, t, hb, hbe, hr, hc⟩ := sim_best (N := N) hok ho k (by omega)
    have hnx : Nx (timesIn (simK gp N n k)) (timesIn (simK gp N n k ++ [⟨(b : Int), (((timesIn (simK gp N n k) (b : Int)).length + 1 : Nat) : Int), t⟩])) (b : Int) t := nx_snoc _ ⟨(b : Int), (((timesIn (simK gp N n k) (b : Int)).length + 1 : Nat) : Int), t⟩
    have ht := readyS_fix hok (timesIn (simK gp N n k)) (getT (timT gp o (zeros n) N)) (fun q j hj => h2 q j hj) b gp.length (Nat.le_refl _) t (by rw [List.take_length]; exact hr)
    rw [List.take_length] at ht
    have hz : (zeros n).getD b 0 = 0 := by
      unfold zeros
      simp only [List.getD, List.getElem?_replicate]
      split <;> rfl
    have hf := timT_fix (s := zeros n) hok (orderK_ok n o ho) (zeros_len n) N _ b hc hb
    rw [hz] at hf
    rw [← hf] at ht
    have e1 : simK gp N n (k + 1) = simK gp N n k ++ [⟨(b : Int), (((timesIn (simK gp N n k) (b : Int)).length + 1 : Nat) : Int), t⟩] := by
      rw [simK_next gp N n k hbe]
      simp
    rw [e1]
    refine ⟨(h1.step hok hb hbe hr hc).1, fun q j hj => ?_⟩
    by_cases hq : (q : Int) = (b : Int)
    · obtain rfl : q = b := by omega
      rw [hnx.own] at hj ⊢
      by_cases hj2 : j < (timesIn (simK gp N n k) (q : Int)).length
      · simp only [List.getD, List.getElem?_append_left hj2]
        exact h2 q j hj2
      · obtain rfl : j = (timesIn (simK gp N n k) (q : Int)).length := by simp at hj; omega
        rw [← ht]
        simp [List.getD]
    · rw [hnx.oth _ hq] at hj ⊢
      exact h2 q j hj
theorem sim_at {n N : Nat} {gp : List Place} {o : List Int} (hn : n ≤ 10) (hN : N ≤ 50) (hok : okGraph n gp = true) (ho : orderF n gp = some o) (k : Nat) (hk : k < N * n) (h : k < (simK gp N n (N * n)).length) :
    ∃ b i : Nat, b < n ∧ i < N ∧ (simK gp N n (N * n))[k] = ⟨(b : Int), ((i + 1 : Nat) : Int), getT (timT gp o (zeros n) N) i b⟩ ∧ okFir n gp (simK gp N n k) (simK gp N n (N * n))[k] = true := by
  obtain ⟨h1, h2⟩ := sim_steps (N := N) hok ho k (by omega)
  obtain ⟨b, t, hb, hbe, hr, hc⟩ := sim_best (N := N) hok ho k hk
  have e1 : simK gp N n (k + 1) = simK gp N n k ++ [⟨(b : Int), (((timesIn (simK gp N n k) (b : Int)).length + 1 : Nat) : Int), t⟩] := by
    rw [simK_next gp N n k hbe]
    simp
  have e2 := simK_at hk h e1
  have h3 := (sim_steps (N := N) hok ho (k + 1) (by omega)).2 b (timesIn (simK gp N n k) (b : Int)).length (by rw [e1, timesIn_snoc]; simp)
  have h4 : (timesIn (simK gp N n (k + 1)) (b : Int)).getD (timesIn (simK gp N n k) (b : Int)).length 0 = t := by
    rw [e1, timesIn_snoc]
    simp [List.getD]
  rw [h4] at h3
  refine ⟨b, _, hb, hc, by rw [e2, h3], ?_⟩
  rw [e2]
  have h5 := (h1.step (num := (timesIn (simK gp N n k) (b : Int)).length + 1) hok hb hbe hr hc).2
  have h6 := readyS_bd hok (timesIn (simK gp N n k)) ((1000 * k : Nat) : Int) (by omega) (fun i j => (sim_ok (N := N) hok ho k (by omega)).1.times i j) (b : Int) gp.length (Nat.le_refl _) t (by rw [List.take_length]; exact hr)
  have h7 : N * n ≤ 500 := Nat.mul_le_mul hN hn
  have q1 : inB (b : Int) 0 ((n : Int) - 1) = true := (inB_iff _ _ _).2 (by omega)
  have q2 : inB t 0 1000000 = true := (inB_iff _ _ _).2 (by omega)
  unfold okFir
  simp only [q1, q2, hr, h5, decide_true, Bool.and_true, Bool.true_and, Int.le_refl]
  simp
theorem ones_eq (y : Int) : ∀ n : Nat, 0 ≤ y → y < (n : Int) → ((List.range n).map fun e : Nat => if y = (e : Int) then 1 else 0).sum = 1 := by
  intro n
  induction n with
  | zero => intro h1 h2; omega
  | succ n ih =>
    intro h1 h2
    rw [List.range_succ, List.map_append, List.sum_append]
    simp only [List.map_cons, List.map_nil, List.sum_cons, List.sum_nil, Nat.add_zero]
    by_cases h : y = (n : Int)
    · have := (ones y n).2 (by omega)
      rw [if_pos h, this]
    · rw [if_neg h, ih h1 (by omega)]
theorem cnt_all (n : Nat) (r : List Firing) (h : ∀ x ∈ r, 0 ≤ x.event ∧ x.event < (n : Int)) : ((List.range n).map fun e : Nat => (timesIn r.reverse (e : Int)).length).sum = r.length := by
  induction r with
  | nil =>
    have := sum_const n
    simpa [timesIn] using this
  | cons f r ih =>
    rw [List.reverse_cons]
    have h1 : (fun e : Nat => (timesIn (r.reverse ++ [f]) (e : Int)).length) = fun e : Nat => (timesIn r.reverse (e : Int)).length + (if f.event = (e : Int) then 1 else 0) := by
      funext e
      rw [timesIn_snoc, List.length_append]
      by_cases h : f.event = (e : Int) <;> simp [h]
    rw [h1, sum_add n (fun e : Nat => (timesIn r.reverse (e : Int)).length) (fun e : Nat => if f.event = (e : Int) then 1 else 0), ih (fun x hx => h x (by simp [hx])), ones_eq f.event n (h f (by simp)).1 (h f (by simp)).2]
    rfl
theorem sum_lt (N : Nat) (f : Nat → Nat) : ∀ n, (∀ e, e < n → f e ≤ N) → ((List.range n).map f).sum ≤ N * n ∧ ((∃ e, e < n ∧ f e < N) → ((List.range n).map f).sum < N * n) := by
  intro n
  induction n with
  | zero => intro _; exact ⟨by simp, by rintro ⟨e, he, _⟩; omega⟩
  | succ n ih =>
    intro h
    obtain ⟨h1, h2⟩ := ih (fun e he => h e (by omega))
    have h3 := h n (by omega)
    rw [List.range_succ]
    simp only [List.map_append, List.sum_append, List.map_cons, List.map_nil, List.sum_cons, List.sum_nil]
    rw [Nat.mul_succ]
    refine ⟨by omega, ?_⟩
    rintro ⟨e, he, hf⟩
    by_cases hen : e = n
    · subst hen; omega
    · have := h2 ⟨e, by omega, hf⟩
      omega
theorem sim_full {n N : Nat} {gp : List Place} {o : List Int} (hok : okGraph n gp = true) (ho : orderF n gp = some o) (e : Nat) (he : e < n) : (timesIn (simK gp N n (N * n)) (e : Int)).length = N := by
  obtain ⟨h1, h2⟩ := sim_ok (N := N) hok ho (N * n) (Nat.le_refl _)
  have h3 := cnt_all n (simK gp N n (N * n)).reverse (fun x hx => (h1.rng x (by simpa using hx)).1)
  simp only [List.reverse_reverse, List.length_reverse, simK_len] at h3
  apply Classical.byContradiction
  intro hne
  have h4 := (sum_lt N (fun e : Nat => (timesIn (simK gp N n (N * n)) (e : Int)).length) n (fun e _ => h2 _)).2 ⟨e, he, by have := h2 (e : Int); omega⟩
  omega
/-- What the law asks. -/
theorem sim_law {ge N : Int} {gp : List Place} {L : List Firing} (h : simF ge gp N = (L, 0)) :
    ∃ n m : Nat, ge = (n : Int) ∧ N = (m : Int) ∧ n ≤ 10 ∧ m ≤ 50 ∧ gp.length ≤ 30 ∧ L.length = m * n ∧ L.length ≤ 500 ∧ isRunF ge gp L = true ∧ (∃ M, afterF ge gp L = (M, 0) ∧ M.length = gp.length ∧ ∀ j (h1 : j < M.length) (h2 : j < gp.length), M[j] = gp[j].tokens) ∧
      ∃ Y, timesF ge gp N = (Y, 0) ∧ Y.length = m ∧ (∀ r ∈ Y, r.length = n) ∧ ∀ j (h1 : j < L.length), ∃ b i : Nat, b < n ∧ ∃ (h3 : i < Y.length) (h4 : b < Y[i].length), L[j] = ⟨(b : Int), (i : Int) + 1, Y[i][b]⟩ := by
  unfold simF at h
  split at h
  · rename_i hc
    obtain ⟨hg, hb, o, ho⟩ := timC_zero hc
    obtain ⟨h1, h2⟩ := okGraph_ev hg
    have hN := (inB_iff _ _ _).1 hb
    obtain ⟨n, rfl⟩ := Int.eq_ofNat_of_zero_le (show 0 ≤ ge by omega)
    obtain ⟨m, rfl⟩ := Int.eq_ofNat_of_zero_le hN.1
    simp only [Int.toNat_natCast] at ho h
    obtain rfl : simK gp m n (m * n) = L := congrArg Prod.fst h
    have hn10 : n ≤ 10 := by omega
    have hm50 : m ≤ 50 := by omega
    have hlen : (simK gp m n (m * n)).length = m * n := simK_len _ _ _ _
    have h500 : m * n ≤ 500 := Nat.mul_le_mul hm50 hn10
    have hrun : isRunF (n : Int) gp (simK gp m n (m * n)) = true := by
      unfold isRunF runK
      rw [hg, hlen, decide_eq_true h500, Bool.true_and, Bool.true_and, List.all_eq_true]
      intro i hi
      have hi : i < m * n := by simpa using hi
      have hi2 : i < (simK gp m n (m * n)).length := by rw [hlen]; exact hi
      obtain ⟨b, j, _, _, _, hf⟩ := sim_at hn10 hm50 hg ho i hi hi2
      rw [simK_take _ _ _ _ _ (Nat.le_of_lt hi)]
      simp only [List.getD, List.getElem?_eq_getElem hi2, Option.getD_some]
      exact hf
    have hTb := TabOk.times (c := 1000000) hg (okGraph_len hg) (o := o) (s := zeros n) (by have := (orderK_ok n o ho).len; omega) (zeros_len n) (zeros_ok n) m
    refine ⟨n, m, rfl, rfl, hn10, hm50, okGraph_len hg, hlen, by omega, hrun, ⟨markT gp (timesIn (simK gp m n (m * n))), by unfold afterF; rw [hg, hrun]; rfl, markT_len _ _, fun j h3 h4 => ?_⟩, timT gp o (zeros n) m, ?_, hTb.len, hTb.row, fun j hj => ?_⟩
    · rw [markT_get _ _ _ h4 h3]
      have hp := okGraph_place hg (List.getElem_mem h4)
      obtain ⟨a, ha⟩ := Int.eq_ofNat_of_zero_le hp.1.1
      obtain ⟨b, hb⟩ := Int.eq_ofNat_of_zero_le hp.2.1.1
      have hp1 := hp.1.2
      have hp2 := hp.2.1.2
      rw [ha] at hp1 ⊢
      rw [hb] at hp2 ⊢
      rw [sim_full hg ho a (by omega), sim_full hg ho b (by omega)]
      omega
    · unfold timesF
      rw [if_pos hc]
      simp only [Int.toNat_natCast, ho, Option.getD_some]
    · rw [hlen] at hj
      obtain ⟨b, i, hb, hi, he, _⟩ := sim_at hn10 hm50 hg ho j hj (by rw [hlen]; exact hj)
      have h3 : i < (timT gp o (zeros n) m).length := by rw [hTb.len]; exact hi
      have h4 : b < (timT gp o (zeros n) m)[i].length := by rw [hTb.lenAt i h3]; exact hb
      refine ⟨b, i, hb, h3, h4, ?_⟩
      rw [he, getT_eq h3 h4]
      simp
  · rename_i hc
    exact absurd (congrArg Prod.snd h) hc
end Go.Proofs.Ytpkkkigiiaegfaa
