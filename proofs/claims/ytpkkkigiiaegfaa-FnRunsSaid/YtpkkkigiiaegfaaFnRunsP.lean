/-
  No firing of a possible run is early; an event can go on just when it has tokens in all its places: plain Lean, no program in sight.
-/
import Derived.Test.YtpkkkigiiaegfaaLateP
import Derived.Test.YtpkkkigiiaegfaaAfterP
namespace Go.Proofs.Ytpkkkigiiaegfaa
open Go.RowKit
set_option linter.unusedVariables false
set_option linter.unusedSimpArgs false
theorem readyS_mono {gp : List Place} {T S : Int → List Int} (hlen : ∀ e, (T e).length = (S e).length) (hle : ∀ e i, (T e).getD i 0 ≤ (S e).getD i 0) (e : Int) : ∀ k, k ≤ gp.length → ∀ s, readyS (gp.take k) S e = some s → ∃ t, readyS (gp.take k) T e = some t ∧ t ≤ s := by
  intro k
  induction k with
  | zero => intro _ s h; exact ⟨s, h, Int.le_refl _⟩
  | succ k ih =>
    intro hk s h
    rw [readyS_succ _ _ _ _ (by omega)] at h ⊢
    cases hr : readyS (gp.take k) S e with
    | none => rw [hr] at h; cases h
    | some s0 =>
      obtain ⟨t0, h1, h2⟩ := ih (by omega) s0 hr
      rw [hr] at h
      rw [h1]
      simp only [stepR, Option.bind_some] at h ⊢
      rw [hlen e, hlen gp[k].src]
      by_cases c1 : gp[k].dst ≠ e ∨ ((S e).length : Int) + 1 ≤ gp[k].tokens
      · rw [if_pos c1] at h ⊢
        cases h
        exact ⟨t0, rfl, h2⟩
      · rw [if_neg c1] at h ⊢
        by_cases c2 : (S gp[k].src).length < (S e).length + 1 - gp[k].tokens.toNat
        · rw [if_pos c2] at h; cases h
        · rw [if_neg c2] at h ⊢
          cases h
          refine ⟨_, rfl, ?_⟩
          have := hle gp[k].src ((S e).length - gp[k].tokens.toNat)
          omega
theorem getD_snoc_le {a b : List Int} {x y : Int} (hl : a.length = b.length) (hle : ∀ i, a.getD i 0 ≤ b.getD i 0) (hxy : x ≤ y) (i : Nat) : (a ++ [x]).getD i 0 ≤ (b ++ [y]).getD i 0 := by
  rcases Nat.lt_trichotomy i a.length with h | h | h
  · have h1 : (a ++ [x]).getD i 0 = a.getD i 0 := by simp [List.getD, List.getElem?_append_left h]
    have h2 : (b ++ [y]).getD i 0 = b.getD i 0 := by simp [List.getD, List.getElem?_append_left (show i < b.length by omega)]
    rw [h1, h2]
    exact hle i
  · subst h
    have h1 : (a ++ [x]).getD a.length 0 = x := by simp [List.getD]
    have h2 : (b ++ [y]).getD a.length 0 = y := by rw [hl]; simp [List.getD]
    rw [h1, h2]
    exact hxy
  · have h1 : (a ++ [x]).getD i 0 = 0 := by simp only [List.getD]; rw [List.getElem?_eq_none (by simp; omega)]; rfl
    have h2 : (b ++ [y]).getD i 0 = 0 := by simp only [List.getD]; rw [List.getElem?_eq_none (by simp; omega)]; rfl
    rw [h1, h2]
    exact Int.le_refl _
/-- The k-th firing of a possible run can go on at its time. -/
theorem runK_time {ge : Int} {gp : List Place} {l : List Firing} (h : runK ge gp l l.length = true) (k : Nat) (hk : k < l.length) : ∃ s, readyS gp (timesIn (l.take k)) l[k].event = some s ∧ s ≤ l[k].time := by
  cases hok : okFir ge gp (l.take k) l[k]
  · rw [runK_false ge gp l k hk hok] at h
    cases h
  · unfold okFir at hok
    simp only [Bool.and_eq_true] at hok
    cases hr : readyS gp (timesIn (l.take k)) l[k].event with
    | none => rw [hr] at hok; cases hok.2
    | some s =>
      rw [hr] at hok
      exact ⟨s, rfl, by simpa using hok.2⟩
theorem early_le {ge : Int} {gp : List Place} {l : List Firing} (h : runK ge gp l l.length = true) : ∀ k, k ≤ l.length → ∀ e i, (timesIn (early gp (l.take k)) e).getD i 0 ≤ (timesIn (l.take k) e).getD i 0 := by
  intro k
  induction k with
  | zero => intro _ e i; simp [early, timesIn]
  | succ k ih =>
    intro hk e i
    have hlt : k < l.length := by omega
    have h1 := ih (by omega)
    obtain ⟨s, hs, hst⟩ := runK_time h k hlt
    obtain ⟨t, ht, hts⟩ := readyS_mono (gp := gp) (T := timesIn (early gp (l.take k))) (S := timesIn (l.take k)) (fun e => early_cnt _ _ _) h1 l[k].event gp.length (Nat.le_refl _) s (by rw [List.take_length]; exact hs)
    rw [List.take_length] at ht
    rw [early_take _ _ _ hlt, take_succ_get _ _ hlt]
    unfold earlS
    rw [timesIn_snoc, timesIn_snoc, ht]
    by_cases e1 : l[k].event = e
    · rw [if_pos e1, if_pos e1]
      exact getD_snoc_le (early_cnt _ _ _) (h1 e) (by simp; omega) i
    · rw [if_neg e1, if_neg e1, List.append_nil, List.append_nil]
      exact h1 e i
theorem late_nn {ge : Int} {gp : List Place} {l : List Firing} {L : List Int} (h : lateF ge gp l = (L, 0)) : ∀ x ∈ L, 0 ≤ x := by
  unfold lateF at h
  split at h
  · cases h
  · split at h
    · cases h
    · rename_i h1 h2
      split at h
      · cases h
      · have hr : isRunF ge gp l = true := by simpa using h2
        have hk : runK ge gp l l.length = true := by unfold isRunF at hr; simp only [Bool.and_eq_true] at hr; exact hr.2
        cases h
        have key : ∀ k, k ≤ l.length → ∀ x ∈ lateL gp (l.take k), 0 ≤ x := by
          intro k
          induction k with
          | zero => intro _ x hx; simp [lateL] at hx
          | succ k ih =>
            intro hk2 x hx
            have hlt : k < l.length := by omega
            rw [lateL_take _ _ _ hlt] at hx
            rcases List.mem_append.1 hx with hx | hx
            · exact ih (by omega) x hx
            · rw [List.mem_singleton.1 hx]
              obtain ⟨s, hs, hst⟩ := runK_time hk k hlt
              obtain ⟨t, ht, hts⟩ := readyS_mono (gp := gp) (T := timesIn (early gp (l.take k))) (S := timesIn (l.take k)) (fun e => early_cnt _ _ _) (early_le hk k (by omega)) l[k].event gp.length (Nat.le_refl _) s (by rw [List.take_length]; exact hs)
              rw [List.take_length] at ht
              rw [ht]
              simp only [Option.getD_some]
              omega
        have := key l.length (Nat.le_refl _)
        rwa [List.take_length] at this
/-- What the law asks of the marking and of the next events. -/
theorem next_law {ge : Int} {gp : List Place} {l : List Firing} {M : List Int} (h : afterF ge gp l = (M, 0)) : okGraph ge gp = true ∧ M.length = gp.length ∧ ∃ E, nextsF ge gp l = (E, 0) ∧ ∀ e : Nat, (e : Int) < ge → enK gp M (e : Int) gp.length = hasI E (e : Int) := by
  unfold afterF at h
  unfold nextsF
  split at h
  · cases h
  · rename_i h1
    split at h
    · cases h
    · rename_i h2
      have hg : okGraph ge gp = true := by simpa using h1
      have hge := okGraph_ev hg
      cases h
      rw [if_neg h1, if_neg h2]
      refine ⟨hg, markT_len _ _, _, rfl, fun e he => ?_⟩
      rw [Bool.eq_iff_iff, hasI_iff, enL_mem]
      constructor
      · intro h3
        exact ⟨⟨by omega, by omega⟩, h3⟩
      · intro h3
        exact h3.2
end Go.Proofs.Ytpkkkigiiaegfaa
