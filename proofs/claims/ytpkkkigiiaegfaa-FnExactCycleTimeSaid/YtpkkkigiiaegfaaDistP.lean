/-
  Token distances: relaxing until nothing changes gives the column of the star; plain Lean, no program in sight.
-/
import Derived.Test.YtpkkkigiiaegfaaStarD
import Derived.Test.YtpkkkigiiaegfaaRooms
namespace Go.Proofs.Ytpkkkigiiaegfaa
open Go.RowKit
set_option linter.unusedVariables false
set_option linter.unusedSimpArgs false
def sumN : Nat → (Nat → Nat) → Nat
  | 0, _ => 0
  | n + 1, f => sumN n f + f n
theorem sumN_set (n : Nat) (f g : Nat → Nat) (d : Nat) (hd : d < n) (h : ∀ i, i ≠ d → g i = f i) : sumN n g + f d = sumN n f + g d := by
  induction n with
  | zero => omega
  | succ n ih =>
    simp only [sumN]
    by_cases e : d = n
    · subst e
      have : sumN d g = sumN d f := by
        clear ih hd
        have key : ∀ m, m ≤ d → sumN m g = sumN m f := by
          intro m
          induction m with
          | zero => intro _; rfl
          | succ m ihm => intro hm; simp only [sumN]; rw [ihm (by omega), h m (by omega)]
        exact key d (Nat.le_refl _)
      omega
    · have h1 := ih (by omega)
      have h2 := h n (fun e' => e e'.symm)
      omega
theorem sumN_le (n c : Nat) (f : Nat → Nat) (h : ∀ i, i < n → f i ≤ c) : sumN n f ≤ n * c := by
  induction n with
  | zero => simp [sumN]
  | succ n ih =>
    simp only [sumN, Nat.succ_mul]
    have := ih (fun i hi => h i (by omega))
    have := h n (by omega)
    omega
theorem sumN_congr (n : Nat) (f g : Nat → Nat) (h : ∀ i, i < n → f i = g i) : sumN n f = sumN n g := by
  induction n with
  | zero => rfl
  | succ n ih => simp only [sumN]; rw [ih (fun i hi => h i (by omega)), h n (by omega)]
def updD (D : Nat → Int) (d : Nat) (x : Int) : Nat → Int := fun i => if i = d then x else D i
def wants (D : Nat → Int) (p : Place) : Bool := decide (0 ≤ D p.src.toNat) && (decide (D p.dst.toNat < 0) || decide (D p.src.toNat + p.tokens < D p.dst.toNat))
def relaxD (D : Nat → Int) (p : Place) : Nat → Int := if wants D p then updD D p.dst.toNat (D p.src.toNat + p.tokens) else D
def cntD (n : Nat) (D : Nat → Int) : Nat := sumN n fun i => if D i < 0 then 0 else 1
def muD (n : Nat) (D : Nat → Int) : Nat := sumN n fun i => if D i < 0 then 100 else (D i).toNat
theorem cntD_le (n : Nat) (D : Nat → Int) : cntD n D ≤ n := by
  have := sumN_le n 1 (fun i => if D i < 0 then 0 else 1) (fun i _ => by split <;> omega)
  unfold cntD
  omega
def tokF (gp : List Place) : Nat → Nat → Int := wgtF (fun p => - p.tokens) gp
theorem wgtF_from (wt : Place → Int) (gp : List Place) : ∀ k, k ≤ gp.length → ∀ i j, wgtF wt (gp.take k) i j = bot ∨ ∃ p ∈ gp, p.dst.toNat = i ∧ p.src.toNat = j ∧ wgtF wt (gp.take k) i j = wt p := by
  intro k
  induction k with
  | zero => intro _ i j; exact .inl rfl
  | succ k ih =>
    intro hk i j
    rw [wgtF_succ wt gp k (by omega)]
    have h1 := ih (by omega)
    unfold updF
    split
    · rename_i hij
      by_cases hle : wgtF wt (gp.take k) gp[k].dst.toNat gp[k].src.toNat ≤ wt gp[k]
      · exact .inr ⟨gp[k], List.getElem_mem _, hij.1.symm, hij.2.symm, by omega⟩
      · rcases h1 gp[k].dst.toNat gp[k].src.toNat with e | ⟨p, hp, e1, e2, e4⟩
        · exact .inl (by omega)
        · exact .inr ⟨p, hp, by omega, by omega, by omega⟩
    · exact h1 i j
theorem wgtF_up (wt : Place → Int) (gp : List Place) (p : Place) (hp : p ∈ gp) : wt p ≤ wgtF wt gp p.dst.toNat p.src.toNat := by
  obtain ⟨q, hq, rfl⟩ := List.mem_iff_getElem.1 hp
  have key : ∀ k, k ≤ gp.length → q < k → wt gp[q] ≤ wgtF wt (gp.take k) gp[q].dst.toNat gp[q].src.toNat := by
    intro k
    induction k with
    | zero => intro _ h; omega
    | succ k ih =>
      intro hk hqk
      rw [wgtF_succ wt gp k (by omega)]
      unfold updF
      by_cases e : q = k
      · subst e
        rw [if_pos ⟨rfl, rfl⟩]
        omega
      · have := ih (by omega) (by omega)
        split
        · rename_i h
          rw [h.1, h.2] at this
          omega
        · exact this
  have := key gp.length (Nat.le_refl _) hq
  rwa [List.take_length] at this
/-- What the distances are known to be on the way. -/
structure DOk (n f : Nat) (gp : List Place) (D : Nat → Int) : Prop where
  low : ∀ i, i < n → -1 ≤ D i
  high : ∀ i, i < n → D i ≤ 5 * (cntD n D : Int)
  start : D f = 0
  att : ∀ y : Nat → Option Int, SubO n (tokF gp) y → (∃ c, y f = some c ∧ 0 ≤ c) → ∀ i, i < n → 0 ≤ D i → ∃ b, y i = some b ∧ -(D i) ≤ b
theorem DOk.small {n f : Nat} {gp : List Place} {D : Nat → Int} (h : DOk n f gp D) (hn : n ≤ 10) (i : Nat) (hi : i < n) : -1 ≤ D i ∧ D i ≤ 50 := by
  have h1 := h.low i hi
  have h2 := h.high i hi
  have h3 := cntD_le n D
  omega
theorem DOk.first {n f : Nat} {gp : List Place} (hf : f < n) : DOk n f gp (updD (fun _ => -1) f 0) := by
  refine ⟨fun i _ => ?_, fun i _ => ?_, ?_, fun y hy hc i hi h => ?_⟩
  · simp only [updD]; split <;> omega
  · simp only [updD]; split <;> omega
  · simp [updD]
  · by_cases e : i = f
    · subst e
      obtain ⟨c, hc, h0⟩ := hc
      exact ⟨c, hc, by simp [updD]; exact h0⟩
    · simp [updD, e] at h
theorem relax_ok {n f : Nat} {gp : List Place} {D : Nat → Int} (hg : okGraph n gp = true) (h : DOk n f gp D) (p : Place) (hp : p ∈ gp) (hw : wants D p = true) :
    DOk n f gp (updD D p.dst.toNat (D p.src.toNat + p.tokens)) ∧ muD n (updD D p.dst.toNat (D p.src.toNat + p.tokens)) < muD n D := by
  obtain ⟨⟨s0, s1⟩, ⟨d0, d1⟩, _, t0, t1⟩ := okGraph_place hg hp
  have hge := okGraph_ev hg
  obtain ⟨s, hs⟩ := Int.eq_ofNat_of_zero_le s0
  obtain ⟨d, hd⟩ := Int.eq_ofNat_of_zero_le d0
  have hup := wgtF_up (fun p => - p.tokens) gp p hp
  have hfin : fin 10 (wgtF (fun p => - p.tokens) gp p.dst.toNat p.src.toNat) := wgtF_fin _ (by omega) gp (fun q hq => by have := okGraph_place hg hq; omega) _ _
  unfold wants at hw
  rw [hs, hd, Int.toNat_natCast, Int.toNat_natCast] at hw hup hfin ⊢
  simp only [Bool.and_eq_true, Bool.or_eq_true, decide_eq_true_eq] at hw
  obtain ⟨hw1, hw2⟩ := hw
  have hsn : s < n := by omega
  have hdn : d < n := by omega
  obtain ⟨x, hx⟩ : ∃ x, D s + p.tokens = x := ⟨_, rfl⟩
  have hx0 : 0 ≤ x := by omega
  have hc := sumN_set n (fun i => if D i < 0 then 0 else 1) (fun i => if updD D d x i < 0 then 0 else 1) d hdn (fun i hi => by simp [updD, hi])
  have hm := sumN_set n (fun i => if D i < 0 then 100 else (D i).toNat) (fun i => if updD D d x i < 0 then 100 else (updD D d x i).toNat) d hdn (fun i hi => by simp [updD, hi])
  have hdd : updD D d x d = x := by simp [updD]
  have hcs := cntD_le n D
  have hhs := h.high s hsn
  simp only [hdd] at hc hm
  rw [if_neg (show ¬ x < 0 by omega)] at hc hm
  have hcnt : cntD n (updD D d x) = cntD n D + (if D d < 0 then 1 else 0) := by unfold cntD; split at hc <;> split <;> omega
  rw [hx]
  refine ⟨⟨fun i hi => ?_, fun i hi => ?_, ?_, fun y hy hcc i hi h0 => ?_⟩, ?_⟩
  · unfold updD; split
    · omega
    · exact h.low i hi
  · have hi2 := h.high i hi
    rw [hcnt]
    unfold updD
    split
    · rename_i e
      subst e
      split <;> omega
    · split <;> omega
  · have hst := h.start
    unfold updD; split
    · rename_i e
      rw [e] at hst
      omega
    · exact hst
  · by_cases e : i = d
    · subst e
      obtain ⟨b, hb, hle⟩ := h.att y hy hcc s hsn hw1
      have hne : tokF gp i s ≠ bot := by unfold tokF; rcases hfin with hfin | hfin <;> unfold bot at * <;> omega
      obtain ⟨b2, hb2, hle2⟩ := hy i s hdn hsn hne b hb
      refine ⟨b2, hb2, ?_⟩
      rw [hdd]
      unfold tokF at hle2
      omega
    · have h1 : updD D d x i = D i := by simp [updD, e]
      rw [h1] at h0 ⊢
      exact h.att y hy hcc i hi h0
  · unfold muD
    have := h.low d hdn
    rcases hw2 with hw2 | hw2
    · rw [if_pos hw2] at hm; omega
    · by_cases hneg : D d < 0
      · rw [if_pos hneg] at hm; omega
      · rw [if_neg hneg] at hm; omega
theorem tok_fin {ge : Int} {gp : List Place} (hg : okGraph ge gp = true) (n : Nat) : finM n 10 (tokF gp) := fun i j _ _ =>
  wgtF_fin _ (by omega) gp (fun q hq => by have := okGraph_place hg hq; omega) i j
theorem tok_it {ge : Int} {gp : List Place} {n : Nat} (hg : okGraph ge gp = true) (hn : n ≤ 10) : itOk n (tokF gp) := by
  refine itOk_of_pot (tok_fin hg n) (by omega) (by omega) hn (z := fun _ => 0) ?_
  intro i j hi hj hne
  have h := wgtF_from (fun p => - p.tokens) gp gp.length (Nat.le_refl _) i j
  rw [List.take_length] at h
  rcases h with h | ⟨p, hp, _, _, e⟩
  · exact absurd h hne
  · have := okGraph_place hg hp
    show tokF gp i j + 0 ≤ 0
    unfold tokF
    rw [e]
    omega
/-- Where nothing wants to change, the distances are the star's column. -/
theorem DOk.star {n f : Nat} {gp : List Place} {D : Nat → Int} (hg : okGraph n gp = true) (h : DOk n f gp D) (hf : f < n) (hst : ∀ p ∈ gp, wants D p = false) (i : Nat) (hi : i < n) :
    D i = if itF n (tokF gp) n i f = bot then -1 else - itF n (tokF gp) n i f := by
  have hge := okGraph_ev hg
  have hsub : SubO n (tokF gp) (fun i => if D i < 0 then none else some (-(D i))) := by
    intro i m hi hm hne a ha
    have hw := wgtF_from (fun p => - p.tokens) gp gp.length (Nat.le_refl _) i m
    rw [List.take_length] at hw
    rcases hw with hw | ⟨p, hp, e1, e2, e⟩
    · exact absurd hw hne
    · have h1 := hst p hp
      unfold wants at h1
      rw [e1, e2] at h1
      simp only at ha
      by_cases hm0 : D m < 0
      · rw [if_pos hm0] at ha; cases ha
      · rw [if_neg hm0] at ha
        injection ha with ha
        rw [decide_eq_true (show 0 ≤ D m by omega), Bool.true_and] at h1
        simp only [Bool.or_eq_false_iff, decide_eq_false_iff_not] at h1
        refine ⟨-(D i), by simp only; rw [if_neg h1.1], ?_⟩
        unfold tokF
        rw [e]
        omega
  have h3 := star_col (tok_fin hg n) (by omega) (by omega) (by omega) (tok_it hg (by omega)) hf hsub (a := 0) (by simp only [h.start]; rfl) (by omega) (fun i hi b hb y hy hc => ?_) i hi
  · unfold colO at h3
    have hl := h.low i hi
    by_cases e : itF n (tokF gp) n i f = bot
    · rw [if_pos e] at h3 ⊢
      by_cases hneg : D i < 0
      · omega
      · rw [if_neg hneg] at h3; cases h3
    · rw [if_neg e] at h3 ⊢
      by_cases hneg : D i < 0
      · rw [if_pos hneg] at h3; cases h3
      · rw [if_neg hneg] at h3
        injection h3 with h3
        omega
  · by_cases hneg : D i < 0
    · rw [if_pos hneg] at hb; cases hb
    · rw [if_neg hneg] at hb
      injection hb with hb
      obtain ⟨c, hcc, hle⟩ := h.att y hy hc i hi (by omega)
      exact ⟨c, hcc, by omega⟩
end Go.Proofs.Ytpkkkigiiaegfaa
