/-
  Starts delay firings by at most the greatest one: plain Lean, no program in sight.
-/
import Derived.Test.YtpkkkigiiaegfaaStart
namespace Go.Proofs.Ytpkkkigiiaegfaa
open Go.RowKit
set_option linter.unusedVariables false
set_option linter.unusedSimpArgs false
theorem setT_shape (T : List (List Int)) (i j : Nat) (x : Int) : (setT T i j x).length = T.length ∧ ∀ a, ((setT T i j x).getD a []).length = (T.getD a []).length := by
  unfold setT
  refine ⟨by simp, fun a => ?_⟩
  by_cases h : i = a
  · subst h
    by_cases h2 : i < T.length
    · simp [List.getD, List.getElem?_set, h2]
    · rw [List.set_eq_of_length_le (Nat.le_of_not_lt h2)]
  · simp [List.getD, List.getElem?_set_ne h]
theorem getT_setT (T : List (List Int)) (i j : Nat) (x : Int) (a b : Nat) : getT (setT T i j x) a b = if a = i ∧ b = j ∧ i < T.length ∧ j < (T.getD i []).length then x else getT T a b := by
  unfold getT setT
  by_cases h : a = i
  · subst h
    by_cases h2 : a < T.length
    · have e1 : (T.set a ((T.getD a []).set j x)).getD a [] = (T.getD a []).set j x := by simp [List.getD, List.getElem?_set, h2]
      rw [e1]
      by_cases h3 : b = j
      · subst h3
        by_cases h4 : b < (T.getD a []).length
        · rw [if_pos ⟨rfl, rfl, h2, h4⟩]
          generalize T.getD a [] = R at *
          simp only [List.getD, List.getElem?_set_self h4, Option.getD_some]
        · rw [if_neg (by rintro ⟨_, _, _, h5⟩; exact h4 h5), List.set_eq_of_length_le (Nat.le_of_not_lt h4)]
      · rw [if_neg (by rintro ⟨_, h5, _⟩; exact h3 h5)]
        simp [List.getD, List.getElem?_set_ne (Ne.symm h3)]
    · rw [if_neg (by rintro ⟨_, _, h5, _⟩; exact h2 h5), List.set_eq_of_length_le (Nat.le_of_not_lt h2)]
  · rw [if_neg (by rintro ⟨h5, _⟩; exact h h5)]
    simp [List.getD, List.getElem?_set_ne (Ne.symm h)]
/-- T is S with starts s, of at most mo. -/
structure RelT (n : Nat) (s : List Int) (mo : Int) (T S : List (List Int)) : Prop where
  len : T.length = S.length
  row : ∀ a, (T.getD a []).length = (S.getD a []).length
  lo : ∀ a b, getT S a b ≤ getT T a b
  hi : ∀ a b, getT T a b ≤ getT S a b + mo
  st : ∀ a b, a < T.length → b < n → s.getD b 0 ≤ getT T a b
theorem RelT.upd {n : Nat} {s : List Int} {mo : Int} {T S : List (List Int)} (h : RelT n s mo T S) (k e : Nat) (p : Place) : RelT n s mo (updT k e T p) (updT k e S p) := by
  unfold updT
  split
  · have e1 := setT_shape T k e (max (getT T k e) (getT T (k - p.tokens.toNat) p.src.toNat + p.delay))
    have e2 := setT_shape S k e (max (getT S k e) (getT S (k - p.tokens.toNat) p.src.toNat + p.delay))
    have l1 := h.lo k e
    have l2 := h.lo (k - p.tokens.toNat) p.src.toNat
    have u1 := h.hi k e
    have u2 := h.hi (k - p.tokens.toNat) p.src.toNat
    refine ⟨by rw [e1.1, e2.1]; exact h.len, fun a => by rw [e1.2, e2.2]; exact h.row a, fun a b => ?_, fun a b => ?_, fun a b ha hb => ?_⟩
    · rw [getT_setT, getT_setT, h.len, h.row k]
      split
      · omega
      · exact h.lo a b
    · rw [getT_setT, getT_setT, h.len, h.row k]
      split
      · omega
      · exact h.hi a b
    · rw [e1.1] at ha
      rw [getT_setT]
      split
      · rename_i h5
        obtain ⟨rfl, rfl, _, _⟩ := h5
        have := h.st a b ha hb
        omega
      · exact h.st a b ha hb
  · exact h
theorem RelT.event {n : Nat} {s : List Int} {mo : Int} (gp : List Place) (k e : Nat) : ∀ {T S : List (List Int)}, RelT n s mo T S → RelT n s mo (eventT gp k e T) (eventT gp k e S) := by
  unfold eventT
  induction gp with
  | nil => intro T S h; exact h
  | cons p gp ih => intro T S h; exact ih (h.upd k e p)
theorem RelT.round {n : Nat} {s : List Int} {mo : Int} (gp : List Place) (k : Nat) (o : List Int) : ∀ {T S : List (List Int)}, RelT n s mo T S → RelT n s mo (roundT gp k o T) (roundT gp k o S) := by
  unfold roundT
  induction o with
  | nil => intro T S h; exact h
  | cons e o ih => intro T S h; exact ih (RelT.event gp k e.toNat h)
theorem getT_push (T : List (List Int)) (r : List Int) (a b : Nat) : getT (T ++ [r]) a b = if a < T.length then getT T a b else if a = T.length then r.getD b 0 else 0 := by
  unfold getT
  rcases Nat.lt_trichotomy a T.length with h | h | h
  · rw [if_pos h]
    simp [List.getD, List.getElem?_append_left h]
  · subst h
    rw [if_neg (by omega), if_pos rfl]
    simp [List.getD]
  · rw [if_neg (by omega), if_neg (by omega)]
    have e : (T ++ [r])[a]? = none := List.getElem?_eq_none (by simp; omega)
    simp only [List.getD, e]
    rfl
theorem RelT.push {n : Nat} {s z : List Int} {mo : Int} {T S : List (List Int)} (h : RelT n s mo T S) (hmo : 0 ≤ mo) (hz : z.length = s.length) (h1 : ∀ b, z.getD b 0 ≤ s.getD b 0) (h2 : ∀ b, s.getD b 0 ≤ z.getD b 0 + mo) : RelT n s mo (T ++ [s]) (S ++ [z]) := by
  refine ⟨by simp [h.len], fun a => ?_, fun a b => ?_, fun a b => ?_, fun a b ha hb => ?_⟩
  · rcases Nat.lt_trichotomy a T.length with h3 | h3 | h3
    · have e1 : (T ++ [s]).getD a [] = T.getD a [] := by simp [List.getD, List.getElem?_append_left h3]
      have e2 : (S ++ [z]).getD a [] = S.getD a [] := by simp [List.getD, List.getElem?_append_left (show a < S.length by rw [← h.len]; exact h3)]
      rw [e1, e2]
      exact h.row a
    · have e1 : (T ++ [s]).getD a [] = s := by rw [h3]; simp [List.getD]
      have e2 : (S ++ [z]).getD a [] = z := by rw [h3, h.len]; simp [List.getD]
      rw [e1, e2, hz]
    · have e1 : (T ++ [s]).getD a [] = [] := by simp only [List.getD]; rw [List.getElem?_eq_none (by simp; omega)]; rfl
      have e2 : (S ++ [z]).getD a [] = [] := by simp only [List.getD]; rw [List.getElem?_eq_none (by have := h.len; simp; omega)]; rfl
      rw [e1, e2]
  · rw [getT_push, getT_push, ← h.len]
    split
    · exact h.lo a b
    · split
      · exact h1 b
      · exact Int.le_refl _
  · rw [getT_push, getT_push, ← h.len]
    split
    · exact h.hi a b
    · split
      · exact h2 b
      · omega
  · rw [getT_push]
    split
    · rename_i h3
      exact h.st a b h3 hb
    · rename_i h3
      rw [if_pos (by simp at ha; omega)]
      exact Int.le_refl _
theorem RelT.times {gp : List Place} {o s z : List Int} {n : Nat} {mo : Int} (hmo : 0 ≤ mo) (hz : z.length = s.length) (h1 : ∀ b, z.getD b 0 ≤ s.getD b 0) (h2 : ∀ b, s.getD b 0 ≤ z.getD b 0 + mo) : ∀ N, RelT n s mo (timT gp o s N) (timT gp o z N) := by
  intro N
  induction N with
  | zero => exact ⟨rfl, fun a => rfl, fun a b => by simp [timT, getT], fun a b => by simp [timT, getT]; exact hmo, fun a b ha => absurd ha (by simp [timT])⟩
  | succ N ih => exact RelT.round gp N o (ih.push hmo hz h1 h2)
/-- The greatest start so far. -/
def mostS (s : List Int) : Int := s.foldl max 0
theorem mostS_succ (s : List Int) (k : Nat) (h : k < s.length) : mostS (s.take (k + 1)) = max (mostS (s.take k)) s[k] := by
  unfold mostS
  rw [take_succ_get _ _ h, List.foldl_append]
  rfl
theorem mostS_bd {s : List Int} {c : Int} (hc : 0 ≤ c) (hb : ∀ x ∈ s, 0 ≤ x ∧ x ≤ c) : ∀ k, k ≤ s.length → (0 ≤ mostS (s.take k) ∧ mostS (s.take k) ≤ c) ∧ ∀ i (hi : i < s.length), i < k → s[i] ≤ mostS (s.take k) := by
  intro k
  induction k with
  | zero => intro _; exact ⟨by simp [mostS]; exact hc, fun i hi h => absurd h (by omega)⟩
  | succ k ih =>
    intro hk
    obtain ⟨h1, h2⟩ := ih (by omega)
    have h3 := hb _ (List.getElem_mem (show k < s.length by omega))
    rw [mostS_succ _ _ (by omega)]
    refine ⟨by omega, fun i hi hik => ?_⟩
    by_cases e : i = k
    · subst e; omega
    · have := h2 i hi (by omega)
      omega
/-- What the law asks. -/
theorem start_law {ge N : Int} {gp : List Place} {s : List Int} {X : List (List Int)} (h : startF ge gp N s = (X, 0)) :
    ∃ n : Nat, ge = (n : Int) ∧ n ≤ 10 ∧ s.length = n ∧ (∀ x ∈ s, 0 ≤ x ∧ x ≤ 1000000) ∧ ∃ Y, timesF ge gp N = (Y, 0) ∧ Y.length = X.length ∧ X.length ≤ 50 ∧ (∀ r ∈ X, r.length = n) ∧ (∀ r ∈ Y, r.length = n) ∧ (∀ r ∈ Y, ∀ y ∈ r, 0 ≤ y ∧ y ≤ 100000000) ∧
      ∀ k (h1 : k < X.length) (h2 : k < Y.length) e (h3 : e < s.length) (h4 : e < X[k].length) (h5 : e < Y[k].length), s[e] ≤ X[k][e] ∧ Y[k][e] ≤ X[k][e] ∧ X[k][e] ≤ Y[k][e] + mostS s := by
  unfold startF at h
  split at h
  · rename_i hc
    split at h
    · cases h
      obtain ⟨hg, hb, o, ho⟩ := timC_zero hc
      obtain ⟨h1, h2⟩ := okGraph_ev hg
      simp only [Bool.and_eq_true, decide_eq_true_eq] at hb
      have hN := (inB_iff _ _ _).1 hb.1.1
      have hsb : ∀ x ∈ s, 0 ≤ x ∧ x ≤ 1000000 := fun x hx => (inB_iff _ _ _).1 (List.all_eq_true.1 hb.2 x hx)
      obtain ⟨n, rfl⟩ := Int.eq_ofNat_of_zero_le (show 0 ≤ ge by omega)
      have hsl : s.length = n := by omega
      rw [Int.toNat_natCast] at ho ⊢
      have hol : o.length ≤ 10 := by have := (orderK_ok n o ho).len; omega
      have hX := TabOk.times (c := 1000000) hg (okGraph_len hg) (o := o) (s := s) hol hsl (fun x hx => hsb x hx) N.toNat
      have hY := TabOk.times (c := 1000000) hg (okGraph_len hg) (o := o) (s := zeros n) hol (zeros_len n) (zeros_ok n) N.toNat
      obtain ⟨⟨m0, m1⟩, m2⟩ := mostS_bd (c := 1000000) (by omega) hsb s.length (Nat.le_refl _)
      rw [List.take_length] at m0 m1 m2
      have hz0 : ∀ b, (zeros n).getD b 0 = 0 := fun b => by
        unfold zeros
        simp only [List.getD, List.getElem?_replicate]
        split <;> rfl
      have hR := RelT.times (gp := gp) (o := o) (s := s) (z := zeros n) (n := n) (mo := mostS s) m0 (by rw [zeros_len, hsl]) (fun b => by
          rw [hz0]
          by_cases hbl : b < s.length
          · simp only [List.getD, List.getElem?_eq_getElem hbl, Option.getD_some]; exact (hsb _ (List.getElem_mem hbl)).1
          · simp [List.getD, List.getElem?_eq_none (Nat.le_of_not_lt hbl)]) (fun b => by
          rw [hz0]
          by_cases hbl : b < s.length
          · simp only [List.getD, List.getElem?_eq_getElem hbl, Option.getD_some]; have := m2 b hbl hbl; omega
          · simp only [List.getD, List.getElem?_eq_none (Nat.le_of_not_lt hbl), Option.getD_none]; omega) N.toNat
      have htc : timC n gp (inB N 0 50) = 0 := by simp [timC, hg, hb.1.1, ho]
      have hoe : (orderF n gp).getD [] = o := by rw [ho]; rfl
      rw [hoe]
      refine ⟨n, rfl, by omega, hsl, hsb, timT gp o (zeros n) N.toNat, by unfold timesF; rw [if_pos htc, Int.toNat_natCast, hoe], by rw [hY.len, hX.len], by rw [hX.len]; omega, hX.row, hY.row, fun r hr y hy => by have := hY.bd r hr y hy; omega, fun k k1 k2 e k3 k4 k5 => ?_⟩
      have e1 := getT_eq k1 k4
      have e2 := getT_eq k2 k5
      have r1 := hR.lo k e
      have r2 := hR.hi k e
      have r3 := hR.st k e k1 (by omega)
      have e3 : s.getD e 0 = s[e] := by simp [List.getD, List.getElem?_eq_getElem k3]
      rw [e3] at r3
      rw [← e1, ← e2]
      exact ⟨r3, r1, r2⟩
    · cases h
  · rename_i hc
    exact absurd (congrArg Prod.snd h) hc
end Go.Proofs.Ytpkkkigiiaegfaa
