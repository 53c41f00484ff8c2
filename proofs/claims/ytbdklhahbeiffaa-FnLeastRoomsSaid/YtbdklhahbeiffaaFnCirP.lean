/-
  A circuit that begins with another of its places is one again, and has the same ratio, and no circuit has more than the cycle time: plain Lean, no program in sight.
-/
import Derived.Test.YtbdklhahbeiffaaCirQ
import Derived.Test.YtbdklhahbeiffaaRatioC
import Derived.Test.YtbdklhahbeiffaaPotA
import Derived.Test.YtbdklhahbeiffaaLoad
namespace Go.Proofs.Ytbdklhahbeiffaa
open Go.RowKit
set_option linter.unusedVariables false
set_option linter.unusedSimpArgs false
theorem max_exists {gp : List Place} {n : Nat} (hg : okGraph n gp = true) (hl : ∃ o, orderF n gp = some o) (hm : ∃ m, circuitB gp m = true) : ∃ a b, IsMax gp a b := by
  have key : ∀ N : Nat, ∀ m, circuitB gp m = true → muR (ratN gp m) (ratD gp m) ≤ N → ∃ a b, IsMax gp a b := by
    intro N
    induction N with
    | zero =>
      intro m h1 h2
      refine ⟨_, _, max_of hg hl h1 (fun ⟨m', h3, h4⟩ => ?_)⟩
      have := muR_lt hg hl (rat_facts hg hl h1).2.1 h3 h4
      omega
    | succ N ih =>
      intro m h1 h2
      by_cases hov : OverC gp (ratN gp m) (ratD gp m) 0
      · obtain ⟨m', h3, h4⟩ := hov
        have := muR_lt hg hl (rat_facts hg hl h1).2.1 h3 h4
        exact ih m' h3 (by omega)
      · exact ⟨_, _, max_of hg hl h1 hov⟩
  obtain ⟨m, hm⟩ := hm
  exact key _ m hm (Nat.le_refl _)
theorem ct_res (ge : Int) (gp : List Place) : CtRes ge gp (ctF ge gp).1 (ctF ge gp).2.1 (ctF ge gp).2.2 := by
  have hex : ∃ a b c, CtRes ge gp a b c := by
    cases hg : okGraph ge gp
    · exact ⟨_, _, _, ct_bad hg⟩
    · have hge := okGraph_ev hg
      obtain ⟨n, rfl⟩ := Int.eq_ofNat_of_zero_le (show 0 ≤ ge by omega)
      cases ho : orderF (n : Int).toNat gp with
      | none => exact ⟨_, _, _, ct_dead hg ho⟩
      | some o =>
        by_cases hm : ∃ m, circuitB gp m = true
        · obtain ⟨a, b, h⟩ := max_exists hg ⟨o, by simpa using ho⟩ hm
          exact ⟨_, _, _, ct_some hg ⟨o, ho⟩ h⟩
        · exact ⟨_, _, _, ct_none hg ⟨o, ho⟩ hm⟩
  obtain ⟨a, b, c, h⟩ := hex
  rw [ct_eq h]
  exact h
theorem circ_turn {gp : List Place} {x : Int} {t : List Int} (h : circuitB gp (x :: t) = true) : circuitB gp (t ++ [x]) = true ∧ (∀ a b, cwL a b gp (t ++ [x]) = cwL a b gp (x :: t)) := by
  have hC := circ_of_list h
  have hS := hC.shift 1
  have hall := ((circuit_iff gp _).1 h).2.1
  have hnn : ∀ k (hk : k < (x :: t).length), (((x :: t).getD k 0).toNat : Int) = (x :: t)[k] := fun k hk => by
    rw [List.getD_eq_getElem?_getD, List.getElem?_eq_getElem hk, Option.getD_some]
    have := (allB_at hall k hk).1
    omega
  have hlen : (x :: t).length = t.length + 1 := rfl
  have hE : t ++ [x] = ints ((List.range (x :: t).length).map fun i => (fun i => ((x :: t).getD (i % (x :: t).length) 0).toNat) (i + 1)) := by
    refine List.ext_getElem (by rw [ints_len]; simp) fun i h1 h2 => ?_
    have hi : i < t.length + 1 := by simpa using h1
    rw [ints_get _ i _ (by simpa using hi)]
    simp only [List.getElem_map, List.getElem_range]
    rcases Nat.lt_or_ge i t.length with h3 | h3
    · rw [hlen, Nat.mod_eq_of_lt (show i + 1 < t.length + 1 by omega), hnn (i + 1) (by rw [hlen]; omega), List.getElem_append_left h3]
      rfl
    · obtain rfl : i = t.length := by omega
      rw [hlen, Nat.mod_self, hnn 0 (by rw [hlen]; omega)]
      simp
  refine ⟨by rw [hE]; exact list_of_circ hS, fun a b => ?_⟩
  rw [hE, list_of_circ_sum, circ_of_list_sum]
  exact sumZ_shift (fun i => wgt a b (pl gp ((x :: t).getD (i % (x :: t).length) 0).toNat)) _ (fun i => by show wgt a b (pl gp ((x :: t).getD ((i + (x :: t).length) % (x :: t).length) 0).toNat) = _; rw [Nat.add_mod_right]) 1
theorem circ_turn_sums {gp : List Place} {x : Int} {t : List Int} (h : circuitB gp (x :: t) = true) : sumD gp (t ++ [x]) (t ++ [x]).length = sumD gp (x :: t) (x :: t).length ∧ sumK gp (t ++ [x]) (t ++ [x]).length = sumK gp (x :: t) (x :: t).length := by
  have h1 := (circ_turn h).2 0 1
  have h2 := (circ_turn h).2 (-1) 0
  unfold cwL at h1 h2
  omega
theorem ratio_of {a b : Int} (h0 : 0 ≤ a) (h1 : a ≤ 1000000) (h2 : 0 < b) (h3 : b ≤ 1000000) (hg : Nat.gcd a.toNat b.toNat = 1) : ratioOk a b = true := by
  unfold ratioOk
  obtain ⟨x, rfl⟩ := Int.eq_ofNat_of_zero_le h0
  obtain ⟨y, rfl⟩ := Int.eq_ofNat_of_zero_le (show 0 ≤ b by omega)
  rw [Int.toNat_natCast, Int.toNat_natCast] at hg
  rw [Bool.and_eq_true, Bool.and_eq_true, inB_iff, inB_iff, decide_eq_true_eq]
  exact ⟨⟨⟨by omega, h1⟩, by omega, h3⟩, by simpa using hg⟩
/-- What CompareRatios gives. -/
def cmpR (a b c d : Int) : Int × Int := if ratioOk a b = true ∧ ratioOk c d = true then (cmpI (a * d) (c * b), 0) else (0, 1)
/-- What the law asks. -/
theorem circ_law {ge : Int} {gp : List Place} {m : List Int} (h : (circRatio ge gp m).2.2 = 0) : okGraph ge gp = true ∧ ∃ x t, m = x :: t ∧ m.length ≤ 10 ∧ circuitB gp (t ++ [x]) = true ∧ circRatio ge gp (t ++ [x]) = circRatio ge gp m ∧ 0 ≤ (circRatio ge gp m).1 ∧ 0 ≤ (ctF ge gp).1 ∧
    ((ctF ge gp).2.2 = 5 ∨ (ctF ge gp).2.2 = 0 ∧ ratioOk (circRatio ge gp m).1 (circRatio ge gp m).2.1 = true ∧ ratioOk (ctF ge gp).1 (ctF ge gp).2.1 = true ∧ (circRatio ge gp m).1 * (ctF ge gp).2.1 ≤ (ctF ge gp).1 * (circRatio ge gp m).2.1) := by
  have hok : okGraph ge gp = true ∧ circuitB gp m = true ∧ sumK gp m m.length ≠ 0 := by
    unfold circRatio at h
    split at h
    · cases h
    · split at h
      · cases h
      · split at h
        · cases h
        · rename_i a b c
          exact ⟨by simpa using a, by simpa using b, c⟩
  obtain ⟨hg, hc, hs⟩ := hok
  have hge := okGraph_ev hg
  obtain ⟨n, rfl⟩ := Int.eq_ofNat_of_zero_le (show 0 ≤ ge by omega)
  have hcl := circuit_len hg hc
  have hR : circRatio n gp m = (ratN gp m, ratD gp m, 0) := by
    unfold circRatio
    rw [if_neg (by simp [hg]), if_neg (by simp [hc]), if_neg hs]
    rfl
  have hsl := sums_le hg ((circuit_iff gp m).1 hc).2.1 m.length (Nat.le_refl _)
  refine ⟨hg, ?_⟩
  cases m with
  | nil => have := ((circuit_iff gp _).1 hc).1; simp at this
  | cons x t =>
    obtain ⟨e1, e2⟩ := circ_turn_sums hc
    have hc2 := (circ_turn hc).1
    have hR2 : circRatio n gp (t ++ [x]) = circRatio n gp (x :: t) := by
      rw [hR]
      unfold circRatio
      rw [if_neg (by simp [hg]), if_neg (by simp [hc2]), if_neg (by rw [e2]; exact hs), e1, e2]
      rfl
    have hlow := low_facts (sumD gp (x :: t) (x :: t).length).toNat (sumK gp (x :: t) (x :: t).length).toNat (by omega)
    refine ⟨x, t, rfl, by omega, hc2, hR2, by rw [hR]; exact hlow.1, ?_⟩
    have hct := ct_res n gp
    cases ho : orderF (n : Int).toNat gp with
    | none => exact ⟨by rw [(hct.dead hg ho).1]; omega, .inl (hct.dead hg ho).2.2⟩
    | some o =>
      have hl : ∃ o, orderF n gp = some o := ⟨o, by simpa using ho⟩
      obtain ⟨hm, hz⟩ := hct.some hg ⟨o, ho⟩ ⟨_, hc⟩
      obtain ⟨r1, r2, r3, r4⟩ := rat_le hg hl hc
      obtain ⟨m1, m2⟩ := hm.le hg hl
      obtain ⟨f1, f2, f3, f4, _⟩ := rat_facts hg hl hc
      rw [hR]
      refine ⟨hm.1, .inr ⟨hz, (show ratioOk (ratN gp (x :: t)) (ratD gp (x :: t)) = true from ratio_of f1 (by omega) f2 (by omega) f3), ratio_of hm.1 (by omega) hm.2.1 (by omega) hm.2.2.1, ?_⟩⟩
      have hno := hm.2.2.2.1
      refine cross_le (live_tokens hg hl hc) f2 hm.2.1 f4 ?_
      show cwL _ _ gp (x :: t) ≤ 0
      exact Int.not_lt.1 fun hlt => hno ⟨_, hc, hlt⟩
end Go.Proofs.Ytbdklhahbeiffaa
