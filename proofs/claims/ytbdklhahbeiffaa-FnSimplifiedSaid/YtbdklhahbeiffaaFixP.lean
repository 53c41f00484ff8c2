/-
  The table of firing times is a fixpoint of its recursion: plain Lean, no program in sight.
-/
import Derived.Test.YtbdklhahbeiffaaTimP
namespace Go.Proofs.Ytbdklhahbeiffaa
open Go.RowKit
set_option linter.unusedVariables false
set_option linter.unusedSimpArgs false
theorem setT_shape (T : List (List Int)) (i j : Nat) (x : Int) : (setT T i j x).length = T.length ∧ ∀ a, ((setT T i j x).getD a []).length = (T.getD a []).length := by
  unfold setT
  refine ⟨by simp, fun a => ?_⟩
  by_cases h : i = a
  · subst h
    by_cases h2 : i < T.length
    · simp [List.getD, List.getElem?_set, h2]
    · rw [List.set_eq_of_length_le (Nat.le_of_not_lt h2)]
  · simp [List.getD, List.getElem?_set_ne h]
theorem getT_setT (T : List (List Int)) (i j : Nat) (x : Int) (a b : Nat) : getT (setT T i j x) a b = if a = i ∧ b = j ∧ i < T.length ∧ j < (T.getD i []).length then x else getT T a b := by
  unfold getT setT
  by_cases h : a = i
  · subst h
    by_cases h2 : a < T.length
    · have e1 : (T.set a ((T.getD a []).set j x)).getD a [] = (T.getD a []).set j x := by simp [List.getD, List.getElem?_set, h2]
      rw [e1]
      by_cases h3 : b = j
      · subst h3
        by_cases h4 : b < (T.getD a []).length
        · rw [if_pos ⟨rfl, rfl, h2, h4⟩]
          generalize T.getD a [] = R at *
          simp only [List.getD, List.getElem?_set_self h4, Option.getD_some]
        · rw [if_neg (by rintro ⟨_, _, _, h5⟩; exact h4 h5), List.set_eq_of_length_le (Nat.le_of_not_lt h4)]
      · rw [if_neg (by rintro ⟨_, h5, _⟩; exact h3 h5)]
        simp [List.getD, List.getElem?_set_ne (Ne.symm h3)]
    · rw [if_neg (by rintro ⟨_, _, h5, _⟩; exact h2 h5), List.set_eq_of_length_le (Nat.le_of_not_lt h2)]
  · rw [if_neg (by rintro ⟨h5, _⟩; exact h h5)]
    simp [List.getD, List.getElem?_set_ne (Ne.symm h)]
theorem getT_push (T : List (List Int)) (r : List Int) (a b : Nat) : getT (T ++ [r]) a b = if a < T.length then getT T a b else if a = T.length then r.getD b 0 else 0 := by
  unfold getT
  rcases Nat.lt_trichotomy a T.length with h | h | h
  · rw [if_pos h]
    simp [List.getD, List.getElem?_append_left h]
  · subst h
    rw [if_neg (by omega), if_pos rfl]
    simp [List.getD]
  · rw [if_neg (by omega), if_neg (by omega)]
    have e : (T ++ [r])[a]? = none := List.getElem?_eq_none (by simp; omega)
    simp only [List.getD, e]
    rfl
/-- A table of m rows of n numbers. -/
structure Sh (n m : Nat) (T : List (List Int)) : Prop where
  len : T.length = m
  row : ∀ a, a < m → (T.getD a []).length = n
theorem Sh.set {n m : Nat} {T : List (List Int)} (h : Sh n m T) (i j : Nat) (x : Int) : Sh n m (setT T i j x) := by
  have e := setT_shape T i j x
  exact ⟨by rw [e.1]; exact h.len, fun a ha => by rw [e.2]; exact h.row a ha⟩
theorem Sh.upd {n m : Nat} {T : List (List Int)} (h : Sh n m T) (k e : Nat) (p : Place) : Sh n m (updT k e T p) := by
  unfold updT
  split
  · exact h.set _ _ _
  · exact h
theorem Sh.event {n m : Nat} (gp : List Place) (k e : Nat) : ∀ {T : List (List Int)}, Sh n m T → Sh n m (eventT gp k e T) := by
  unfold eventT
  induction gp with
  | nil => intro T h; exact h
  | cons p gp ih => intro T h; exact ih (h.upd k e p)
theorem Sh.round {n m : Nat} (gp : List Place) (k : Nat) (o : List Int) : ∀ {T : List (List Int)}, Sh n m T → Sh n m (roundT gp k o T) := by
  unfold roundT
  induction o with
  | nil => intro T h; exact h
  | cons e o ih => intro T h; exact ih (Sh.event gp k e.toNat h)
theorem Sh.push {n m : Nat} {T : List (List Int)} {s : List Int} (h : Sh n m T) (hs : s.length = n) : Sh n (m + 1) (T ++ [s]) := by
  refine ⟨by simp [h.len], fun a ha => ?_⟩
  by_cases h3 : a < T.length
  · have e1 : (T ++ [s]).getD a [] = T.getD a [] := by simp [List.getD, List.getElem?_append_left h3]
    rw [e1]
    exact h.row a (by rw [← h.len]; exact h3)
  · obtain rfl : a = T.length := by have := h.len; omega
    have e1 : (T ++ [s]).getD T.length [] = s := by simp [List.getD]
    rw [e1, hs]
theorem Sh.times {n : Nat} {gp : List Place} {o s : List Int} (hs : s.length = n) : ∀ N, Sh n N (timT gp o s N) := by
  intro N
  induction N with
  | zero => exact ⟨rfl, fun a ha => absurd ha (Nat.not_lt_zero _)⟩
  | succ N ih => exact Sh.round gp N o (ih.push hs)
/-- One place, for the time of event e in round k, when the times are G. -/
def stepK (G : Nat → Nat → Int) (k e : Nat) (m : Int) (p : Place) : Int := if p.dst = (e : Int) ∧ p.tokens ≤ (k : Int) then max m (G (k - p.tokens.toNat) p.src.toNat + p.delay) else m
def fixK (gp : List Place) (G : Nat → Nat → Int) (k e : Nat) (m : Int) : Int := gp.foldl (stepK G k e) m
theorem fixK_congr {gp : List Place} {G H : Nat → Nat → Int} {k e : Nat} (h : ∀ p ∈ gp, p.dst = (e : Int) → p.tokens ≤ (k : Int) → G (k - p.tokens.toNat) p.src.toNat = H (k - p.tokens.toNat) p.src.toNat) : ∀ m, fixK gp G k e m = fixK gp H k e m := by
  unfold fixK
  induction gp with
  | nil => intro m; rfl
  | cons p gp ih =>
    intro m
    simp only [List.foldl_cons]
    have : stepK G k e m p = stepK H k e m p := by
      unfold stepK
      by_cases hc : p.dst = (e : Int) ∧ p.tokens ≤ (k : Int)
      · rw [if_pos hc, if_pos hc, h p (by simp) hc.1 hc.2]
      · rw [if_neg hc, if_neg hc]
    rw [this]
    exact ih (fun q hq => h q (by simp [hq])) _
theorem fixK_succ (gp : List Place) (G : Nat → Nat → Int) (k e : Nat) (m : Int) (q : Nat) (h : q < gp.length) : fixK (gp.take (q + 1)) G k e m = stepK G k e (fixK (gp.take q) G k e m) gp[q] := by
  unfold fixK
  rw [take_succ_get _ _ h, List.foldl_append]
  rfl
theorem updT_get {n m : Nat} {T : List (List Int)} (h : Sh n m T) {k e : Nat} (hk : k < m) (he : e < n) (p : Place) :
    getT (updT k e T p) k e = stepK (getT T) k e (getT T k e) p ∧ ∀ a b, ¬ (a = k ∧ b = e) → getT (updT k e T p) a b = getT T a b := by
  unfold updT stepK
  split
  · refine ⟨?_, fun a b hab => ?_⟩
    · rw [getT_setT, if_pos ⟨rfl, rfl, by rw [h.len]; exact hk, by rw [h.row k hk]; exact he⟩]
    · rw [getT_setT, if_neg (fun hh => hab ⟨hh.1, hh.2.1⟩)]
  · exact ⟨rfl, fun _ _ _ => rfl⟩
theorem eventT_get {n m k e : Nat} (hk : k < m) (he : e < n) : ∀ (gp : List Place) {T : List (List Int)}, Sh n m T → (∀ p ∈ gp, p.dst = (e : Int) → p.tokens ≤ (k : Int) → ¬ (k - p.tokens.toNat = k ∧ p.src.toNat = e)) →
    getT (eventT gp k e T) k e = fixK gp (getT T) k e (getT T k e) ∧ ∀ a b, ¬ (a = k ∧ b = e) → getT (eventT gp k e T) a b = getT T a b := by
  intro gp
  induction gp with
  | nil => intro T h _; exact ⟨rfl, fun _ _ _ => rfl⟩
  | cons p gp ih =>
    intro T h hn
    obtain ⟨u1, u2⟩ := updT_get h hk he p
    obtain ⟨i1, i2⟩ := ih (h.upd k e p) (fun q hq => hn q (by simp [hq]))
    have e1 : eventT (p :: gp) k e T = eventT gp k e (updT k e T p) := rfl
    rw [e1]
    refine ⟨?_, fun a b hab => by rw [i2 a b hab, u2 a b hab]⟩
    rw [i1, u1]
    have e2 : fixK (p :: gp) (getT T) k e (getT T k e) = fixK gp (getT T) k e (stepK (getT T) k e (getT T k e) p) := rfl
    rw [e2]
    exact fixK_congr (fun q hq h1 h2 => u2 _ _ (hn q (by simp [hq]) h1 h2)) _
theorem take_new {o : List Int} (hn : o.Nodup) {i : Nat} (hi : i < o.length) : o[i] ∉ o.take i := by
  intro h
  obtain ⟨j, hj, e⟩ := List.mem_iff_getElem.1 h
  have hj2 : j < i := by simp at hj; omega
  rw [List.getElem_take] at e
  exact List.pairwise_iff_getElem.1 hn j i (by omega) hi hj2 e
theorem roundT_get {n m k : Nat} {gp : List Place} {o : List Int} {ge : Int} (hok : okGraph ge gp = true) (hO : OrdOk n gp n o) {T0 : List (List Int)} (h : Sh n m T0) (hk : k < m) : ∀ i, i ≤ o.length →
    (∀ a b, a ≠ k → getT (roundT gp k (o.take i) T0) a b = getT T0 a b) ∧ (∀ b : Nat, (b : Int) ∉ o.take i → getT (roundT gp k (o.take i) T0) k b = getT T0 k b) ∧
    ∀ e : Nat, (e : Int) ∈ o.take i → getT (roundT gp k (o.take i) T0) k e = fixK gp (getT (roundT gp k (o.take i) T0)) k e (getT T0 k e) := by
  intro i
  induction i with
  | zero => intro _; exact ⟨fun _ _ _ => rfl, fun _ _ => rfl, fun e he => by simp at he⟩
  | succ i ih =>
    intro hi
    obtain ⟨a1, a2, a3⟩ := ih (by omega)
    have hr := hO.rng _ (List.getElem_mem (show i < o.length by omega))
    obtain ⟨e0, he0⟩ := Int.eq_ofNat_of_zero_le hr.1
    have hnew := take_new hO.nodup (show i < o.length by omega)
    have hS := Sh.round gp k (o.take i) h
    rw [roundT_succ _ _ _ _ _ (by omega)]
    have hord := hO.ord i (by omega)
    rw [he0] at hr hnew hord ⊢
    rw [Int.toNat_natCast]
    have hnoself : ∀ p ∈ gp, p.dst = (e0 : Int) → p.tokens ≤ (k : Int) → ¬ (k - p.tokens.toNat = k ∧ p.src.toNat = e0) := by
      rintro p hp hd ht ⟨h1, h2⟩
      have hpp := okGraph_place hok hp
      have h0 : p.tokens = 0 := by have := hpp.2.2.2.1; omega
      have hm := hord p hp hd h0
      have : p.src = (e0 : Int) := by have := hpp.1.1; omega
      rw [this] at hm
      exact hnew hm
    obtain ⟨v1, v2⟩ := eventT_get hk (show e0 < n by omega) gp hS hnoself
    have htk : o.take (i + 1) = o.take i ++ [(e0 : Int)] := by rw [take_succ_get _ _ (by omega), he0]
    refine ⟨fun a b hab => ?_, fun b hb => ?_, fun e he => ?_⟩
    · rw [v2 a b (fun hh => hab hh.1), a1 a b hab]
    · rw [htk] at hb
      simp at hb
      rw [v2 k b (fun hh => hb.2 (by rw [hh.2])), a2 b hb.1]
    · rw [htk] at he
      rcases List.mem_append.1 he with he | he
      · have hne : e ≠ e0 := fun hh => hnew (by rw [← hh]; exact he)
        rw [v2 k e (fun hh => hne hh.2), a3 e he]
        refine fixK_congr (fun p hp hd ht => ?_) _
        refine (v2 _ _ ?_).symm
        rintro ⟨h1, h2⟩
        have hpp := okGraph_place hok hp
        have h0 : p.tokens = 0 := by have := hpp.2.2.2.1; omega
        obtain ⟨j, hj, hje⟩ := List.mem_iff_getElem.1 he
        have hji : j < i := by simp at hj; omega
        rw [List.getElem_take] at hje
        have hm := hO.ord j (by omega) p hp (by rw [hd, hje]) h0
        have : p.src = (e0 : Int) := by have := hpp.1.1; omega
        rw [this] at hm
        refine hnew ?_
        obtain ⟨q, hq, hqe⟩ := List.mem_iff_getElem.1 hm
        have hqj : q < j := by simp at hq; omega
        rw [List.getElem_take] at hqe
        exact List.mem_iff_getElem.2 ⟨q, by simp; omega, by rw [List.getElem_take]; exact hqe⟩
      · have hee : e = e0 := by have := List.mem_singleton.1 he; omega
        subst hee
        rw [v1, a2 e hnew]
        exact fixK_congr (fun p hp hd ht => (v2 _ _ (hnoself p hp hd ht)).symm) _
theorem timT_fix {n : Nat} {gp : List Place} {o s : List Int} {ge : Int} (hok : okGraph ge gp = true) (hO : OrdOk n gp n o) (hs : s.length = n) : ∀ N, ∀ k e : Nat, k < N → e < n → getT (timT gp o s N) k e = fixK gp (getT (timT gp o s N)) k e (s.getD e 0) := by
  intro N
  induction N with
  | zero => intro k e hk; exact absurd hk (Nat.not_lt_zero _)
  | succ N ih =>
    intro k e hk he
    have hSN := Sh.times (gp := gp) (o := o) hs N
    have hS := hSN.push hs
    obtain ⟨a1, _, a3⟩ := roundT_get hok hO hS (Nat.lt_succ_self N) o.length (Nat.le_refl _)
    rw [List.take_length] at a1 a3
    have eT : timT gp o s (N + 1) = roundT gp N o (timT gp o s N ++ [s]) := rfl
    rw [eT]
    by_cases hkN : k = N
    · subst hkN
      rw [a3 e (hO.all e he), getT_push, hSN.len, if_neg (Nat.lt_irrefl _), if_pos rfl]
    · have hlow : ∀ a b, a < N → getT (roundT gp N o (timT gp o s N ++ [s])) a b = getT (timT gp o s N) a b := fun a b ha => by
        rw [a1 a b (by omega), getT_push, hSN.len, if_pos ha]
      rw [hlow k e (by omega), ih k e (by omega) he]
      exact fixK_congr (fun p _ _ _ => (hlow _ _ (by omega)).symm) _
end Go.Proofs.Ytbdklhahbeiffaa
