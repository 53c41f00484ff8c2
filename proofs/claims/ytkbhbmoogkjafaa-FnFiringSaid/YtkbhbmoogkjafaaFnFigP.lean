/-
  Firing never changes the tokens of a circuit: plain Lean, no program in sight.
-/
import Derived.Test.YtkbhbmoogkjafaaCirQ
import Derived.Test.YtkbhbmoogkjafaaTokens
import Derived.Test.YtkbhbmoogkjafaaSeq
namespace Go.Proofs.Ytkbhbmoogkjafaa
open Go.RowKit
set_option linter.unusedVariables false
set_option linter.unusedSimpArgs false
theorem sum_map_Z (f : Int → Int) : ∀ l : List Int, (l.map f).sum = sumZ l.length (fun t => f (l.getD t 0)) := by
  intro l
  induction l with
  | nil => rfl
  | cons x l ih =>
    rw [List.length_cons, sumZ_front, List.map_cons, List.sum_cons, ih]
    rfl
theorem sumZ_tele (f : Nat → Int) : ∀ n, sumZ n (fun t => f t - f (t + 1)) = f 0 - f n := by
  intro n
  induction n with
  | zero => simp [sumZ]
  | succ n ih => rw [sumZ, ih]; omega
theorem sumZ_add (f g : Nat → Int) : ∀ n, sumZ n (fun t => f t + g t) = sumZ n f + sumZ n g := by
  intro n
  induction n with
  | zero => rfl
  | succ n ih => simp only [sumZ]; rw [ih]; omega
theorem tokSum_fire {gp : List Place} {m ci : List Int} (e : Int) (hc : circuitB gp ci = true) (hm : m.length = gp.length) : tokSum (fireM gp m e) ci = tokSum m ci := by
  have hC := circ_of_list hc
  have hall := ((circuit_iff gp _).1 hc).2.1
  unfold tokSum
  rw [sum_map_Z, sum_map_Z]
  have hfl := fireM_len gp m e hm
  have h1 : ∀ t, t < ci.length → (fireM gp m e).getD (ci.getD t 0).toNat 0 = m.getD (ci.getD t 0).toNat 0 + ((fun i => if (pl gp ((ci.getD (i % ci.length) 0).toNat)).src = e then (1 : Int) else 0) t - (fun i => if (pl gp ((ci.getD (i % ci.length) 0).toNat)).src = e then (1 : Int) else 0) (t + 1)) := by
    intro t ht
    have hnx := hC.nx t
    have hlt := hC.lt t
    try simp only at hnx hlt
    try simp only
    rw [← hnx]
    rw [Nat.mod_eq_of_lt ht] at hlt ⊢
    generalize (ci.getD t 0).toNat = q at *
    have e1 : (fireM gp m e).getD q 0 = fire1 gp[q] m[q] e := by
      rw [List.getD_eq_getElem?_getD, List.getElem?_eq_getElem (show q < (fireM gp m e).length by omega), Option.getD_some]
      exact fireM_get gp m e q hlt (by omega) (by omega)
    have e2 : m.getD q 0 = m[q] := by rw [List.getD_eq_getElem?_getD, List.getElem?_eq_getElem (show q < m.length by omega), Option.getD_some]
    rw [e1, e2, pl_at hlt]
    unfold fire1
    by_cases d1 : gp[q].dst = e <;> by_cases d2 : gp[q].src = e <;> simp only [d1, d2, if_true, if_false] <;> omega
  rw [sumZ_congr _ h1, sumZ_add, sumZ_tele]
  have := hC.per 0
  rw [Nat.zero_add] at this
  try simp only at this
  try simp only [this]
  omega
/-- What the law asks. -/
theorem figt_law {ge : Int} {gp : List Place} {m ci x : List Int} {e : Int} (h : (circTok ge gp m ci).2 = 0) (hf : fireF ge gp m e = (x, 0)) : circTok ge gp x ci = circTok ge gp m ci := by
  have hok : okGraph ge gp = true ∧ okMarking gp m = true ∧ circuitB gp ci = true := by
    unfold circTok at h
    split at h
    · cases h
    · split at h
      · cases h
      · split at h
        · cases h
        · rename_i a b c
          exact ⟨by simpa using a, by simpa using b, by simpa using c⟩
  obtain ⟨hg, hm, hc⟩ := hok
  have hx : x = fireM gp m e ∧ okMarking gp x = true := by
    unfold fireF at hf
    rw [if_neg (by simp [hg]), if_neg (by simp [hm])] at hf
    split at hf
    · cases hf
    · have hz := congrArg Prod.snd hf
      have ho := firedF_zero (n := ge.toNat) (gp := gp) (m := m) (e := e) hz
      rw [hf] at ho
      refine ⟨?_, ho⟩
      unfold firedF at hf
      split at hf
      · cases hf
      · split at hf
        · cases hf
        · exact (congrArg Prod.fst hf).symm
  obtain ⟨hx1, hx2⟩ := hx
  unfold circTok
  rw [if_neg (by simp [hg]), if_neg (by simp [hx2]), if_neg (by simp [hc]), if_neg (by simp [hg]), if_neg (by simp [hm]), if_neg (by simp [hc])]
  rw [hx1, tokSum_fire e hc (okMarking_len hm)]
theorem figt_circ {ge : Int} {gp : List Place} {m ci : List Int} (h : (circTok ge gp m ci).2 = 0) : okGraph ge gp = true ∧ okMarking gp m = true ∧ circuitB gp ci = true := by
  unfold circTok at h
  split at h
  · cases h
  · split at h
    · cases h
    · split at h
      · cases h
      · rename_i a b c
        exact ⟨by simpa using a, by simpa using b, by simpa using c⟩
/-- What FireEvent's code says of the list of the enabled events. -/
theorem figt_en {ge : Int} {gp : List Place} {m : List Int} {e : Int} (hg : okGraph ge gp = true) (hm : okMarking gp m = true) :
    ((fireF ge gp m e).2 = 0 → hasI (enL gp m ge.toNat) e = true) ∧ ((fireF ge gp m e).2 = 5 → hasI (enL gp m ge.toNat) e = false) := by
  have hge := okGraph_ev hg
  obtain ⟨n, rfl⟩ := Int.eq_ofNat_of_zero_le (show 0 ≤ ge by omega)
  unfold fireF
  rw [if_neg (by simp [hg]), if_neg (by simp [hm]), Int.toNat_natCast, hasI_enL]
  split
  · exact ⟨fun h => (by cases h), fun h => (by cases h)⟩
  · unfold firedF
    split
    · rename_i h
      exact ⟨fun h => (by cases h), fun _ => h⟩
    · rename_i h
      split
      · exact ⟨fun h => (by cases h), fun h => (by cases h)⟩
      · exact ⟨fun _ => by simpa using h, fun h => (by cases h)⟩
theorem figt_has {ge : Int} {gp : List Place} {m X E : List Int} {e fd ed : Int} (h : fireF ge gp m e = (X, fd)) (h3 : enF ge gp m = (E, ed)) : (fd = 0 → hasI E e = true) ∧ (fd = 5 → hasI E e = false) := by
  have hfd : (fireF ge gp m e).2 = fd := congrArg Prod.snd h
  have hE : (enF ge gp m).1 = E := congrArg Prod.fst h3
  cases hg : okGraph ge gp
  · rw [show fireF ge gp m e = ([], 1) by unfold fireF; rw [if_pos hg]] at hfd
    simp only at hfd
    exact ⟨fun h => absurd h (by omega), fun h => absurd h (by omega)⟩
  · cases hm : okMarking gp m
    · rw [show fireF ge gp m e = ([], 2) by unfold fireF; rw [if_neg (by simp [hg]), if_pos hm]] at hfd
      simp only at hfd
      exact ⟨fun h => absurd h (by omega), fun h => absurd h (by omega)⟩
    · have he := figt_en (e := e) hg hm
      rw [hfd] at he
      rw [show enF ge gp m = (enL gp m ge.toNat, 0) by unfold enF; rw [if_neg (by simp [hg]), if_neg (by simp [hm])]] at hE
      rw [← hE]
      exact he
end Go.Proofs.Ytkbhbmoogkjafaa
