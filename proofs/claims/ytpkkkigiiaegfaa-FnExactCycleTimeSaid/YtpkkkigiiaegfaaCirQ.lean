/-
  The cycle time in plain Lean: what both sides give, and that there is one such value.
-/
import Derived.Test.YtpkkkigiiaegfaaCirP
namespace Go.Proofs.Ytpkkkigiiaegfaa
open Go.RowKit
set_option linter.unusedVariables false
set_option linter.unusedSimpArgs false

/-- What CycleTime may give. -/
structure CtRes (ge : Int) (gp : List Place) (a b c : Int) : Prop where
  bad : okGraph ge gp = false → a = 0 ∧ b = 0 ∧ c = 1
  dead : okGraph ge gp = true → orderF ge.toNat gp = none → a = 0 ∧ b = 0 ∧ c = 5
  none : okGraph ge gp = true → (∃ o, orderF ge.toNat gp = some o) → (¬ ∃ m, circuitB gp m = true) → a = 0 ∧ b = 0 ∧ c = 4
  some : okGraph ge gp = true → (∃ o, orderF ge.toNat gp = some o) → (∃ m, circuitB gp m = true) → IsMax gp a b ∧ c = 0
theorem ct_uniq {ge : Int} {gp : List Place} {a b c a' b' c' : Int} (h : CtRes ge gp a b c) (h' : CtRes ge gp a' b' c') : a = a' ∧ b = b' ∧ c = c' := by
  cases hg : okGraph ge gp
  · obtain ⟨rfl, rfl, rfl⟩ := h.bad hg
    obtain ⟨rfl, rfl, rfl⟩ := h'.bad hg
    exact ⟨rfl, rfl, rfl⟩
  · have hge := okGraph_ev hg
    obtain ⟨n, rfl⟩ := Int.eq_ofNat_of_zero_le (show 0 ≤ ge by omega)
    cases ho : orderF (n : Int).toNat gp with
    | none =>
      obtain ⟨rfl, rfl, rfl⟩ := h.dead hg ho
      obtain ⟨rfl, rfl, rfl⟩ := h'.dead hg ho
      exact ⟨rfl, rfl, rfl⟩
    | some o =>
      by_cases hm : ∃ m, circuitB gp m = true
      · obtain ⟨h1, rfl⟩ := h.some hg ⟨o, ho⟩ hm
        obtain ⟨h2, rfl⟩ := h'.some hg ⟨o, ho⟩ hm
        obtain ⟨rfl, rfl⟩ := max_uniq hg ⟨o, by simpa using ho⟩ h1 h2
        exact ⟨rfl, rfl, rfl⟩
      · obtain ⟨rfl, rfl, rfl⟩ := h.none hg ⟨o, ho⟩ hm
        obtain ⟨rfl, rfl, rfl⟩ := h'.none hg ⟨o, ho⟩ hm
        exact ⟨rfl, rfl, rfl⟩
open Classical in
/-- What CycleTime gives. -/
noncomputable def ctF (ge : Int) (gp : List Place) : Int × Int × Int := if h : ∃ r : Int × Int × Int, CtRes ge gp r.1 r.2.1 r.2.2 then Classical.choose h else (0, 0, 0)
theorem ct_eq {ge : Int} {gp : List Place} {a b c : Int} (h : CtRes ge gp a b c) : ctF ge gp = (a, b, c) := by
  have hex : ∃ r : Int × Int × Int, CtRes ge gp r.1 r.2.1 r.2.2 := ⟨(a, b, c), h⟩
  unfold ctF
  rw [dif_pos hex]
  obtain ⟨h1, h2, h3⟩ := ct_uniq (Classical.choose_spec hex) h
  exact Prod.ext h1 (Prod.ext h2 h3)
theorem ct_bad {ge : Int} {gp : List Place} (hg : okGraph ge gp = false) : CtRes ge gp 0 0 1 := ⟨fun _ => ⟨rfl, rfl, rfl⟩, fun h => (by rw [hg] at h; cases h), fun h => (by rw [hg] at h; cases h), fun h => (by rw [hg] at h; cases h)⟩
theorem ct_dead {ge : Int} {gp : List Place} (hg : okGraph ge gp = true) (ho : orderF ge.toNat gp = none) : CtRes ge gp 0 0 5 := by
  refine ⟨fun h => (by rw [hg] at h; cases h), fun _ _ => ⟨rfl, rfl, rfl⟩, fun _ h => ?_, fun _ h => ?_⟩ <;> (obtain ⟨o, h⟩ := h; rw [ho] at h; cases h)
theorem ct_none {ge : Int} {gp : List Place} (hg : okGraph ge gp = true) (ho : ∃ o, orderF ge.toNat gp = some o) (hm : ¬ ∃ m, circuitB gp m = true) : CtRes ge gp 0 0 4 := by
  refine ⟨fun h => (by rw [hg] at h; cases h), fun _ h => ?_, fun _ _ _ => ⟨rfl, rfl, rfl⟩, fun _ _ h => absurd h hm⟩
  obtain ⟨o, ho⟩ := ho
  rw [ho] at h; cases h
theorem ct_some {ge : Int} {gp : List Place} {a b : Int} (hg : okGraph ge gp = true) (ho : ∃ o, orderF ge.toNat gp = some o) (hm : IsMax gp a b) : CtRes ge gp a b 0 := by
  refine ⟨fun h => (by rw [hg] at h; cases h), fun _ h => ?_, fun _ _ h => absurd ⟨_, hm.2.2.2.2.choose_spec.1⟩ h, fun _ _ _ => ⟨hm, rfl⟩⟩
  obtain ⟨o, ho⟩ := ho
  rw [ho] at h; cases h
/-- The ratio of a circuit that no other beats. -/
theorem max_of {gp : List Place} {n : Nat} {m : List Int} (hg : okGraph n gp = true) (hl : ∃ o, orderF n gp = some o) (hm : circuitB gp m = true) (hn : ¬ OverC gp (ratN gp m) (ratD gp m) 0) : IsMax gp (ratN gp m) (ratD gp m) := by
  obtain ⟨h1, h2, h3, h4, _⟩ := rat_facts hg hl hm
  exact ⟨h1, h2, h3, hn, m, hm, h4⟩
/-- Two circuits of one ratio have it in the same lowest terms. -/
theorem rat_same {gp : List Place} {n : Nat} {a b : Int} {m : List Int} (hg : okGraph n gp = true) (hl : ∃ o, orderF n gp = some o) (ha : 0 ≤ a) (hb : 0 < b) (hab : Nat.gcd a.toNat b.toNat = 1) (hm : circuitB gp m = true) (h0 : cwL a b gp m = 0) : ratN gp m = a ∧ ratD gp m = b := by
  obtain ⟨h1, h2, h3, h4, _⟩ := rat_facts hg hl hm
  have hM := live_tokens hg hl hm
  have e1 := cross_le hM hb h2 h0 (by show _ ≤ _; exact Int.le_of_eq h4)
  have e2 := cross_le hM h2 hb h4 (Int.le_of_eq h0)
  obtain ⟨p, q⟩ := low_uniq h1 h2 ha hb h3 hab (by omega)
  exact ⟨p, q⟩
theorem IsMax.le {gp : List Place} {n : Nat} {a b : Int} (h : IsMax gp a b) (hg : okGraph n gp = true) (hl : ∃ o, orderF n gp = some o) : a ≤ 10000 ∧ b ≤ 50 := by
  obtain ⟨h1, h2, h3, _, m, h4, h5⟩ := h
  obtain ⟨p, q⟩ := rat_same hg hl h1 h2 h3 h4 h5
  obtain ⟨_, _, _, _, h6, h7⟩ := rat_facts hg hl h4
  have hlen := circuit_len hg h4
  have hn := okGraph_ev hg
  obtain ⟨⟨_, s2⟩, _, s4⟩ := sums_le hg ((circuit_iff gp m).1 h4).2.1 m.length (Nat.le_refl _)
  omega
/-- The bounds of a circuit's ratio. -/
theorem rat_le {gp : List Place} {n : Nat} {m : List Int} (hg : okGraph n gp = true) (hl : ∃ o, orderF n gp = some o) (h4 : circuitB gp m = true) : 0 ≤ ratN gp m ∧ ratN gp m ≤ 10000 ∧ 0 < ratD gp m ∧ ratD gp m ≤ 50 := by
  obtain ⟨h1, h2, _, _, h6, h7⟩ := rat_facts hg hl h4
  have hlen := circuit_len hg h4
  have hn := okGraph_ev hg
  obtain ⟨⟨_, s2⟩, _, s4⟩ := sums_le hg ((circuit_iff gp m).1 h4).2.1 m.length (Nat.le_refl _)
  omega
/-- What the program's search has. -/
def RatSt (gp : List Place) (a b : Int) : Prop := (a = 0 ∧ b = 1) ∨ ∃ m, circuitB gp m = true ∧ a = ratN gp m ∧ b = ratD gp m
theorem RatSt.le {gp : List Place} {n : Nat} {a b : Int} (h : RatSt gp a b) (hg : okGraph n gp = true) (hl : ∃ o, orderF n gp = some o) : 0 ≤ a ∧ a ≤ 10000 ∧ 0 < b ∧ b ≤ 50 := by
  rcases h with ⟨rfl, rfl⟩ | ⟨m, hm, rfl, rfl⟩
  · decide
  · exact rat_le hg hl hm
theorem max_start {gp : List Place} {n : Nat} (hg : okGraph n gp = true) (hm : ∃ m, circuitB gp m = true) (hn : ¬ OverC gp 0 1 0) : IsMax gp 0 1 := by
  obtain ⟨m, hm⟩ := hm
  have h1 := (sums_le hg ((circuit_iff gp m).1 hm).2.1 m.length (Nat.le_refl _)).1.1
  refine ⟨by decide, by decide, by decide, hn, m, hm, ?_⟩
  rcases Int.lt_or_le 0 (cwL 0 1 gp m) with h | h
  · exact absurd ⟨m, hm, h⟩ hn
  · unfold cwL at h ⊢
    omega
theorem RatSt.max {gp : List Place} {n : Nat} {a b : Int} (h : RatSt gp a b) (hg : okGraph n gp = true) (hl : ∃ o, orderF n gp = some o) (hm : ∃ m, circuitB gp m = true) (hn : ¬ OverC gp a b 0) : IsMax gp a b := by
  rcases h with ⟨rfl, rfl⟩ | ⟨m, hm, rfl, rfl⟩
  · exact max_start hg hm hn
  · exact max_of hg hl hm hn
/-- A circuit that no other beats, found by the reference. -/
theorem max_found {gp : List Place} {n : Nat} {m m' : List Int} (hg : okGraph n gp = true) (hl : ∃ o, orderF n gp = some o) (hm : circuitB gp m = true) (hn : ¬ OverC gp (ratN gp m) (ratD gp m) 0) (hm' : circuitB gp m' = true) (hw : -1 < cwL (ratN gp m) (ratD gp m) gp m') : IsMax gp (ratN gp m') (ratD gp m') := by
  have hx := max_of hg hl hm hn
  obtain ⟨h1, h2, h3, h4, _⟩ := hx
  have h0 : cwL (ratN gp m) (ratD gp m) gp m' = 0 := by
    rcases Int.lt_or_le 0 (cwL (ratN gp m) (ratD gp m) gp m') with h | h
    · exact absurd ⟨m', hm', h⟩ hn
    · omega
  obtain ⟨e1, e2⟩ := rat_same hg hl h1 h2 h3 hm' h0
  rw [e1, e2]
  exact max_of hg hl hm hn
theorem over_own {gp : List Place} {n : Nat} {m : List Int} (hg : okGraph n gp = true) (hl : ∃ o, orderF n gp = some o) (hm : circuitB gp m = true) : OverC gp (ratN gp m) (ratD gp m) (-1) := by
  obtain ⟨_, _, _, h4, _⟩ := rat_facts hg hl hm
  exact ⟨m, hm, by omega⟩
theorem over_any {gp : List Place} {n : Nat} (hg : okGraph n gp = true) (h : ¬ OverC gp 0 1 (-1)) : ¬ ∃ m, circuitB gp m = true := by
  rintro ⟨m, hm⟩
  have h1 := (sums_le hg ((circuit_iff gp m).1 hm).2.1 m.length (Nat.le_refl _)).1.1
  exact h ⟨m, hm, by unfold cwL; omega⟩
/-- Do some places lead from, or to, an event? -/
def visB (gp : List Place) (p : List Nat) (e : Int) : Bool := p.any fun i => (pl gp i).src == e || (pl gp i).dst == e
theorem visB_take {gp : List Place} {p : List Nat} {e : Int} (h : ∀ j (hj : j < p.length), (pl gp p[j]).src ≠ e ∧ (pl gp p[j]).dst ≠ e) : visB gp p e = false := by
  unfold visB
  rw [List.any_eq_false]
  intro i hi
  obtain ⟨j, hj, rfl⟩ := List.mem_iff_getElem.1 hi
  have := h j hj
  simp [this.1, this.2]
theorem visB_at {gp : List Place} {p : List Nat} {e : Int} {j : Nat} (hj : j < p.length) (h : (pl gp p[j]).src = e ∨ (pl gp p[j]).dst = e) : visB gp p e = true := by
  unfold visB
  rw [List.any_eq_true]
  exact ⟨p[j], List.getElem_mem hj, by rcases h with h | h <;> simp [h]⟩
theorem visB_not {gp : List Place} {p : List Nat} {e : Int} (h : visB gp p e = false) : ∀ x ∈ p, (pl gp x).src ≠ e ∧ (pl gp x).dst ≠ e := by
  intro x hx
  unfold visB at h
  rw [List.any_eq_false] at h
  have := h x hx
  simpa using this
end Go.Proofs.Ytpkkkigiiaegfaa
