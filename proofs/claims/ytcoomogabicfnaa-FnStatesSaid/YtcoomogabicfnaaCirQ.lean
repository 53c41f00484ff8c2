/-
  The cycle time in plain Lean: what both sides give, and that there is one such value.
-/
import Derived.Test.YtcoomogabicfnaaRatioC
import Derived.Test.YtcoomogabicfnaaDistA
import Derived.Test.YtcoomogabicfnaaPotA
import Derived.Test.YtcoomogabicfnaaTimP
import Derived.Test.YtcoomogabicfnaaOrdG
namespace Go.Proofs.Ytcoomogabicfnaa
open Go.RowKit
set_option linter.unusedVariables false
set_option linter.unusedSimpArgs false
def updF1 {α : Type} (f : Nat → α) (d : Nat) (x : α) : Nat → α := fun i => if i = d then x else f i
/-! ### better circuits: relaxing with predecessors -/
structure Bf where
  best : Nat → Int
  by_ : Nat → Nat
  r : Nat → Nat
  tm : Nat → Nat
theorem updF1_at {α : Type} (f : Nat → α) (d : Nat) (x : α) : updF1 f d x d = x := by unfold updF1; rw [if_pos rfl]
theorem updF1_ne {α : Type} (f : Nat → α) (d : Nat) (x : α) {v : Nat} (h : v ≠ d) : updF1 f d x v = f v := by unfold updF1; rw [if_neg h]
section
variable (m : Nat) (s d : Nat → Nat) (wt : Nat → Int) (W : Int)
/-- Place i, in round k, is the T-th step. -/
def relaxB (k T i : Nat) (S : Bf) : Bf :=
  if S.best (d i) < S.best (s i) + wt i then ⟨updF1 S.best (d i) (S.best (s i) + wt i), updF1 S.by_ (d i) i, updF1 S.r (d i) k, updF1 S.tm (d i) (T + 1)⟩ else S
structure BfOk (k i T : Nat) (S : Bf) : Prop where
  fresh : ∀ j, j < m → S.best (s j) + wt j ≤ S.best (d j) ∨ (j < i ∧ k ≤ S.r (s j)) ∨ (i ≤ j ∧ k ≤ S.r (s j) + 1)
  pred : ∀ v, 0 < S.r v → S.by_ v < m ∧ d (S.by_ v) = v ∧ S.r v ≤ S.r (s (S.by_ v)) + 1 ∧ S.best v ≤ S.best (s (S.by_ v)) + wt (S.by_ v) ∧ (S.tm v ≤ S.tm (s (S.by_ v)) → S.best v < S.best (s (S.by_ v)) + wt (S.by_ v))
  top : ∀ v, S.r v ≤ k
  time : ∀ v, S.tm v ≤ T
  bnd : ∀ v, 0 ≤ S.best v ∧ S.best v ≤ T * W
theorem BfOk.start : BfOk m s d wt W 1 0 0 ⟨fun _ => 0, fun _ => 0, fun _ => 0, fun _ => 0⟩ :=
  ⟨fun j _ => .inr (.inr ⟨Nat.zero_le _, by simp⟩), fun v h => absurd h (by simp), fun v => by simp, fun v => by simp, fun v => by simp⟩
theorem BfOk.next {k T : Nat} {S : Bf} (h : BfOk m s d wt W k m T S) : BfOk m s d wt W (k + 1) 0 T S := by
  refine ⟨fun j hj => ?_, h.pred, fun v => by have := h.top v; omega, h.time, h.bnd⟩
  rcases h.fresh j hj with h1 | h1 | h1
  · exact .inl h1
  · exact .inr (.inr ⟨Nat.zero_le _, by omega⟩)
  · omega
theorem BfOk.step {k i T : Nat} {S : Bf} (hW : ∀ i, i < m → wt i ≤ W) (hW0 : 0 ≤ W) (h : BfOk m s d wt W k i T S) (hi : i < m) : BfOk m s d wt W k (i + 1) (T + 1) (relaxB s d wt k T i S) := by
  have hTW : ((T + 1 : Nat) : Int) * W = T * W + W := by rw [Int.natCast_add, Int.add_mul]; simp
  unfold relaxB
  by_cases hlt : S.best (d i) < S.best (s i) + wt i
  · rw [if_pos hlt]
    have hk : k ≤ S.r (s i) + 1 := by
      rcases h.fresh i hi with h1 | h1 | h1 <;> omega
    have hb : ∀ v, S.best v ≤ updF1 S.best (d i) (S.best (s i) + wt i) v := fun v => by
      by_cases e : v = d i
      · subst e; rw [updF1_at]; omega
      · rw [updF1_ne _ _ _ e]; exact Int.le_refl _
    have hr : ∀ v, S.r v ≤ updF1 S.r (d i) k v := fun v => by
      by_cases e : v = d i
      · subst e; rw [updF1_at]; exact h.top _
      · rw [updF1_ne _ _ _ e]; exact Nat.le_refl _
    refine ⟨fun j hj => ?_, fun v hv => ?_, fun v => ?_, fun v => ?_, fun v => ?_⟩
    · dsimp only
      by_cases e : s j = d i
      · rw [e, updF1_at, updF1_at]
        by_cases hji : j < i + 1
        · exact .inr (.inl ⟨hji, Nat.le_refl _⟩)
        · exact .inr (.inr ⟨by omega, by omega⟩)
      · rw [updF1_ne _ _ _ e, updF1_ne _ _ _ e]
        have hbd := hb (d j)
        by_cases hji : j = i
        · subst hji
          left
          rw [updF1_at]
          exact Int.le_refl _
        · rcases h.fresh j hj with h1 | h1 | h1
          · left; omega
          · exact .inr (.inl ⟨by omega, h1.2⟩)
          · exact .inr (.inr ⟨by omega, h1.2⟩)
    · dsimp only at hv ⊢
      by_cases e : v = d i
      · subst e
        rw [updF1_at, updF1_at, updF1_at, updF1_at]
        have h1 := hr (s i)
        have h2 := hb (s i)
        refine ⟨hi, rfl, by omega, by omega, fun ht => ?_⟩
        by_cases e : s i = d i
        · rw [e] at hlt ⊢
          rw [updF1_at]
          omega
        · rw [updF1_ne _ _ _ e] at ht
          have := h.time (s i)
          omega
      · rw [updF1_ne _ _ _ e] at hv
        rw [updF1_ne S.by_ _ _ e, updF1_ne S.r _ _ e, updF1_ne S.best _ _ e, updF1_ne S.tm _ _ e]
        obtain ⟨p1, p2, p3, p4, p5⟩ := h.pred v hv
        have h1 := hr (s (S.by_ v))
        have h2 := hb (s (S.by_ v))
        refine ⟨p1, p2, by omega, by omega, fun ht => ?_⟩
        by_cases e2 : s (S.by_ v) = d i
        · rw [e2] at p4 ⊢
          rw [updF1_at]
          omega
        · rw [updF1_ne _ _ _ e2] at ht ⊢
          exact p5 ht
    · dsimp only
      by_cases e : v = d i
      · subst e; rw [updF1_at]; exact Nat.le_refl _
      · rw [updF1_ne _ _ _ e]; exact h.top v
    · dsimp only
      by_cases e : v = d i
      · subst e; rw [updF1_at]; exact Nat.le_refl _
      · rw [updF1_ne _ _ _ e]; have := h.time v; omega
    · dsimp only
      rw [hTW]
      have h1 := hW i hi
      have h2 := h.bnd (s i)
      have h3 := h.bnd (d i)
      by_cases e : v = d i
      · subst e; rw [updF1_at]; omega
      · rw [updF1_ne _ _ _ e]; have := h.bnd v; omega
  · rw [if_neg hlt]
    refine ⟨fun j hj => ?_, h.pred, h.top, fun v => by have := h.time v; omega, fun v => ?_⟩
    · by_cases hji : j = i
      · subst hji; left; omega
      · rcases h.fresh j hj with h1 | h1 | h1
        · exact .inl h1
        · exact .inr (.inl ⟨by omega, h1.2⟩)
        · exact .inr (.inr ⟨by omega, h1.2⟩)
    · have := h.bnd v
      rw [hTW]
      omega
/-- The way back along the predecessors. -/
def backB (S : Bf) (v : Nat) : Nat → Nat
  | 0 => v
  | t + 1 => s (S.by_ (backB S v t))
theorem back_add (S : Bf) (v : Nat) : ∀ a b, backB s S v (a + b) = backB s S (backB s S v a) b := by
  intro a b
  induction b with
  | zero => rfl
  | succ b ih => show s (S.by_ (backB s S v (a + b))) = _; rw [ih]; rfl
variable {m s d wt W}
theorem back_r {k i T : Nat} {S : Bf} (h : BfOk m s d wt W k i T S) (v : Nat) (q : Nat) (hq : q ≤ S.r v) : ∀ t, t < q → q ≤ S.r (backB s S v t) + t := by
  intro t
  induction t with
  | zero => intro _; exact hq
  | succ t ih =>
    intro ht
    have h1 := ih (by omega)
    have h2 := h.pred (backB s S v t) (by omega)
    show q ≤ S.r (s (S.by_ (backB s S v t))) + (t + 1)
    omega
/-- After n + 1 rounds the n-th node back lies on a cycle of predecessors. -/
theorem back_cycle {k i T n : Nat} {S : Bf} (h : BfOk m s d wt W k i T S) (hs : ∀ j, j < m → s j < n) (v : Nat) (hv : v < n) (hq : n + 1 ≤ S.r v) :
    ∃ L, 0 < L ∧ L ≤ n ∧ backB s S (backB s S v n) L = backB s S v n ∧ ∀ t, 0 < S.r (backB s S v t) := by
  have hr : ∀ t, t ≤ n → 0 < S.r (backB s S v t) := fun t ht => by have := back_r h v (n + 1) hq t (by omega); omega
  have hlt : ∀ t, t ≤ n + 1 → backB s S v t < n := fun t ht => by
    cases t with
    | zero => exact hv
    | succ t => exact hs _ (h.pred _ (hr t (by omega))).1
  have hex : ∃ a b, a < b ∧ b ≤ n ∧ backB s S v a = backB s S v b := by
    apply Classical.byContradiction
    intro hno
    have hnd : ((List.range (n + 1)).map (backB s S v)).Nodup := by
      unfold List.Nodup
      rw [List.pairwise_map]
      have h1 := List.pairwise_lt_range (n := n + 1)
      refine List.Pairwise.imp_of_mem (fun {a b} _ hb hab he => ?_) h1
      exact hno ⟨a, b, hab, by have := List.mem_range.1 hb; omega, he⟩
    have := nodup_len n _ hnd (fun x hx => by
      obtain ⟨t, ht, rfl⟩ := List.mem_map.1 hx
      exact hlt t (by have := List.mem_range.1 ht; omega))
    simp at this
    omega
  obtain ⟨a, b, hab, hbn, he⟩ := hex
  have hper : ∀ t, backB s S v (b + t) = backB s S v (a + t) := fun t => by rw [back_add, back_add, he]
  have hcyc : backB s S v (n + (b - a)) = backB s S v n := by
    have := hper (n - a)
    rw [show b + (n - a) = n + (b - a) by omega, show a + (n - a) = n by omega] at this
    exact this
  have hall : ∀ t, 0 < S.r (backB s S v t) := by
    intro t
    induction t using Nat.strongRecOn with
    | ind t ih =>
      rcases Nat.lt_or_ge n t with h1 | h1
      · have := hper (t - b)
        rw [show b + (t - b) = t by omega] at this
        rw [this]
        exact ih _ (by omega)
      · exact hr t h1
  refine ⟨b - a, by omega, by omega, by rw [← back_add]; exact hcyc, hall⟩
def sumZ : Nat → (Nat → Int) → Int
  | 0, _ => 0
  | n + 1, f => sumZ n f + f n
/-- A cycle of predecessors has a weight above 0. -/
theorem cycle_pos {k i T : Nat} {S : Bf} (h : BfOk m s d wt W k i T S) (u L : Nat) (hL : 0 < L) (hc : backB s S u L = u) (hr : ∀ t, 0 < S.r (backB s S u t)) :
    0 < sumZ L (fun t => wt (S.by_ (backB s S u t))) := by
  have key : ∀ q, q ≤ L → S.best u - S.best (backB s S u q) ≤ sumZ q (fun t => wt (S.by_ (backB s S u t))) ∧
      (S.best u - S.best (backB s S u q) < sumZ q (fun t => wt (S.by_ (backB s S u t))) ∨ S.tm (backB s S u q) + q ≤ S.tm u) := by
    intro q
    induction q with
    | zero => intro _; exact ⟨by simp [backB, sumZ], .inr (by simp [backB])⟩
    | succ q ih =>
      intro hq
      obtain ⟨i1, i2⟩ := ih (by omega)
      obtain ⟨_, _, _, p4, p5⟩ := h.pred _ (hr q)
      have e : backB s S u (q + 1) = s (S.by_ (backB s S u q)) := rfl
      rw [e]
      simp only [sumZ]
      refine ⟨by omega, ?_⟩
      by_cases ht : S.tm (backB s S u q) ≤ S.tm (s (S.by_ (backB s S u q)))
      · have := p5 ht
        left; omega
      · rcases i2 with i2 | i2
        · left; omega
        · right; omega
  obtain ⟨k1, k2⟩ := key L (Nat.le_refl _)
  rw [hc] at k1 k2
  omega
end
/-! ### circuits as places that lead round -/
def pl (gp : List Place) (i : Nat) : Place := gp.getD i ⟨0, 0, 0, 0⟩
theorem pl_at {gp : List Place} {i : Nat} (h : i < gp.length) : pl gp i = gp[i] := by simp [pl, List.getD, List.getElem?_eq_getElem h]
theorem pl_mem {gp : List Place} {i : Nat} (h : i < gp.length) : pl gp i ∈ gp := by rw [pl_at h]; exact List.getElem_mem h
theorem plc_ints {gp : List Place} {p : List Nat} {k : Nat} (h : k < p.length) : plc gp (ints p) k = pl gp p[k] := by
  unfold plc pl
  rw [List.getD_eq_getElem?_getD (l := ints p), List.getElem?_eq_getElem (by rw [ints_len]; exact h), Option.getD_some, ints_get p k _ h, Int.toNat_natCast]
theorem sumZ_congr {f g : Nat → Int} : ∀ n, (∀ t, t < n → f t = g t) → sumZ n f = sumZ n g := by
  intro n
  induction n with
  | zero => intro _; rfl
  | succ n ih => intro h; simp only [sumZ]; rw [ih (fun t ht => h t (by omega)), h n (by omega)]
theorem sumZ_front (f : Nat → Int) : ∀ n, sumZ (n + 1) f = f 0 + sumZ n (fun t => f (t + 1)) := by
  intro n
  induction n with
  | zero => simp [sumZ]
  | succ n ih => rw [sumZ, ih]; simp only [sumZ]; omega
theorem sumZ_shift (f : Nat → Int) (L : Nat) (hp : ∀ t, f (t + L) = f t) : ∀ k, sumZ L (fun t => f (t + k)) = sumZ L f := by
  intro k
  induction k with
  | zero => rfl
  | succ k ih =>
    rw [← ih]
    have h1 := sumZ_front (fun t => f (t + k)) L
    simp only [sumZ, Nat.zero_add] at h1
    have h2 := hp k
    rw [Nat.add_comm k L] at h2
    have h3 : sumZ L (fun t => f (t + 1 + k)) = sumZ L (fun t => f (t + (k + 1))) := sumZ_congr L fun t _ => by rw [show t + 1 + k = t + (k + 1) by omega]
    omega
theorem sumZ_back (f : Nat → Int) : ∀ n, sumZ n (fun t => f (n - 1 - t)) = sumZ n f := by
  intro n
  induction n with
  | zero => rfl
  | succ n ih =>
    rw [sumZ_front]
    have h : sumZ n (fun t => f (n + 1 - 1 - (t + 1))) = sumZ n (fun t => f (n - 1 - t)) := sumZ_congr n fun t _ => by rw [show n + 1 - 1 - (t + 1) = n - 1 - t by omega]
    rw [h, ih]
    simp only [sumZ]
    rw [show n + 1 - 1 - 0 = n by omega]
    omega
/-- The weight of a list of places. -/
def cwL (a b : Int) (gp : List Place) (m : List Int) : Int := b * sumD gp m m.length - a * sumK gp m m.length
theorem cw_sum (a b : Int) (gp : List Place) (m : List Int) : ∀ k, b * sumD gp m k - a * sumK gp m k = sumZ k (fun t => wgt a b (plc gp m t)) := by
  intro k
  induction k with
  | zero => simp [sumD, sumK, sumZ]
  | succ k ih => rw [sumD_succ, sumK_succ, sumZ, ← ih, Int.mul_add, Int.mul_add]; unfold wgt; omega
theorem cwL_eq (a b : Int) (gp : List Place) (m : List Int) : cwL a b gp m = sumZ m.length (fun t => wgt a b (plc gp m t)) := cw_sum a b gp m _
structure Circ (gp : List Place) (L : Nat) (q : Nat → Nat) : Prop where
  pos : 0 < L
  per : ∀ i, q (i + L) = q i
  lt : ∀ i, q i < gp.length
  nx : ∀ i, (pl gp (q i)).dst = (pl gp (q (i + 1))).src
  inj : ∀ i j, i < j → j < L → (pl gp (q i)).src ≠ (pl gp (q j)).src
theorem mod_shift (i k L : Nat) : (i % L + k) % L = (i + k) % L := Nat.mod_add_mod i L k
theorem circ_of_list {gp : List Place} {m : List Int} (h : circuitB gp m = true) : Circ gp m.length (fun i => (m.getD (i % m.length) 0).toNat) := by
  obtain ⟨h1, h2, h3, h4⟩ := (circuit_iff gp m).1 h
  refine ⟨h1, fun i => by show (m.getD ((i + m.length) % m.length) 0).toNat = _; rw [Nat.add_mod_right], fun i => ?_, fun i => ?_, fun i j hij hj => ?_⟩
  · have hk := Nat.mod_lt i h1
    obtain ⟨q, hq, hl, _⟩ := allB_place h2 _ hk
    show (m.getD (i % m.length) 0).toNat < gp.length
    rw [List.getD_eq_getElem?_getD, List.getElem?_eq_getElem hk, Option.getD_some, hq, Int.toNat_natCast]
    exact hl
  · have hk := Nat.mod_lt i h1
    have := h4 _ hk
    show (plc gp m (i % m.length)).dst = (plc gp m ((i + 1) % m.length)).src
    rw [this, mod_shift]
  · have := h3 j hj i hij
    show (plc gp m (i % m.length)).src ≠ (plc gp m (j % m.length)).src
    rw [Nat.mod_eq_of_lt hj, Nat.mod_eq_of_lt (by omega)]
    exact this
theorem circ_of_list_sum (a b : Int) {gp : List Place} {m : List Int} : cwL a b gp m = sumZ m.length (fun t => wgt a b (pl gp ((m.getD (t % m.length) 0).toNat))) := by
  rw [cwL_eq]
  exact sumZ_congr _ fun t ht => by rw [Nat.mod_eq_of_lt ht]; rfl
theorem Circ.shift {gp : List Place} {L : Nat} {q : Nat → Nat} (h : Circ gp L q) (k : Nat) : Circ gp L (fun i => q (i + k)) := by
  have hmod : ∀ i, q i = q (i % L) := fun i => by
    have e := Nat.div_add_mod i L
    have hp : ∀ c x, q (x + L * c) = q x := by
      intro c
      induction c with
      | zero => intro x; rw [Nat.mul_zero, Nat.add_zero]
      | succ c ih => intro x; rw [Nat.mul_succ, ← Nat.add_assoc, h.per, ih]
    rw [Nat.add_comm] at e
    rw [← e, hp]
    rw [show (i % L + L * (i / L)) % L = i % L by rw [Nat.add_mul_mod_self_left, Nat.mod_mod]]
  refine ⟨h.pos, fun i => ?_, fun i => h.lt _, fun i => ?_, fun i j hij hj he => ?_⟩
  · show q (i + L + k) = q (i + k)
    rw [show i + L + k = i + k + L by omega, h.per]
  · show (pl gp (q (i + k))).dst = (pl gp (q (i + 1 + k))).src
    rw [show i + 1 + k = i + k + 1 by omega]
    exact h.nx _
  · have he : (pl gp (q (i + k))).src = (pl gp (q (j + k))).src := he
    rw [hmod (i + k), hmod (j + k)] at he
    have h1 := Nat.mod_lt (i + k) h.pos
    have h2 := Nat.mod_lt (j + k) h.pos
    have hne : (i + k) % L ≠ (j + k) % L := by
      intro e
      have h3 : (j + k - (i + k)) % L = 0 := Nat.sub_mod_eq_zero_of_mod_eq e.symm
      rw [show j + k - (i + k) = j - i by omega, Nat.mod_eq_of_lt (by omega)] at h3
      omega
    rcases Nat.lt_or_gt_of_ne hne with h3 | h3
    · exact h.inj _ _ h3 h2 he
    · exact h.inj _ _ h3 h1 he.symm
theorem ints_all {gp : List Place} {p : List Nat} (h : ∀ x ∈ p, x < gp.length) : allB (ints p) 0 ((gp.length : Int) - 1) = true := by
  unfold allB ints
  rw [List.all_eq_true]
  intro x hx
  obtain ⟨y, hy, rfl⟩ := List.mem_map.1 hx
  have := h y hy
  exact (inB_iff _ _ _).2 ⟨by omega, by omega⟩
theorem list_of_circ {gp : List Place} {L : Nat} {q : Nat → Nat} (h : Circ gp L q) : circuitB gp (ints ((List.range L).map q)) = true := by
  have hl : (ints ((List.range L).map q)).length = L := by rw [ints_len]; simp
  have hp : ∀ k, k < L → plc gp (ints ((List.range L).map q)) k = pl gp (q k) := fun k hk => by
    rw [plc_ints (by simpa using hk)]
    simp
  refine (circuit_iff _ _).2 ⟨by rw [hl]; exact h.pos, ints_all (fun x hx => ?_), fun k hk j hj => ?_, fun k hk => ?_⟩
  · obtain ⟨y, _, rfl⟩ := List.mem_map.1 hx
    exact h.lt y
  · rw [hl] at hk
    rw [hp j (by omega), hp k hk]
    exact h.inj j k hj hk
  · rw [hl] at hk ⊢
    have hm := Nat.mod_lt (k + 1) h.pos
    rw [hp k hk, hp _ hm, h.nx]
    rcases Nat.lt_or_ge (k + 1) L with h1 | h1
    · rw [Nat.mod_eq_of_lt h1]
    · have e : k + 1 = L := by omega
      rw [e, Nat.mod_self]
      have := h.per 0
      rw [Nat.zero_add] at this
      rw [this]
theorem list_of_circ_sum (a b : Int) {gp : List Place} {L : Nat} {q : Nat → Nat} : cwL a b gp (ints ((List.range L).map q)) = sumZ L (fun t => wgt a b (pl gp (q t))) := by
  rw [cwL_eq]
  have hl : (ints ((List.range L).map q)).length = L := by rw [ints_len]; simp
  rw [hl]
  exact sumZ_congr _ fun t ht => by rw [plc_ints (by simpa using ht)]; simp
/-- A circuit that is more than some number. -/
def OverC (gp : List Place) (a b ov : Int) : Prop := ∃ m, circuitB gp m = true ∧ ov < cwL a b gp m
/-- The same, from the least event. -/
theorem OverC.least {gp : List Place} {a b ov : Int} (h : OverC gp a b ov) : ∃ L q, Circ gp L q ∧ (∀ j, (pl gp (q 0)).src.toNat ≤ (pl gp (q j)).src.toNat) ∧ ov < sumZ L (fun t => wgt a b (pl gp (q t))) := by
  obtain ⟨m, h1, h2⟩ := h
  have hc := circ_of_list h1
  rw [circ_of_list_sum a b] at h2
  revert h2
  generalize hq : (fun i => (m.getD (i % m.length) 0).toNat) = q at hc
  intro h2
  have h3 : ov < sumZ m.length (fun t => wgt a b (pl gp (q t))) := by rw [← hq]; exact h2
  obtain ⟨M, ⟨s, hs⟩, hm⟩ := exists_min (P := fun M => ∃ s, (pl gp (q s)).src.toNat = M) ⟨_, 0, rfl⟩
  refine ⟨m.length, _, hc.shift s, fun j => ?_, ?_⟩
  · show (pl gp (q (0 + s))).src.toNat ≤ (pl gp (q (j + s))).src.toNat
    rw [Nat.zero_add, hs]
    rcases Nat.lt_or_ge (pl gp (q (j + s))).src.toNat M with h | h
    · exact absurd ⟨_, rfl⟩ (hm _ h)
    · exact h
  · have := sumZ_shift (fun t => wgt a b (pl gp (q t))) m.length (fun t => by show wgt a b (pl gp (q (t + m.length))) = _; rw [hc.per]) s
    show ov < sumZ m.length (fun t => wgt a b (pl gp (q (t + s))))
    rw [this]
    exact h3
/-- No potential is raised round a circuit. -/
theorem not_over {gp : List Place} {n : Nat} {a b : Int} (hg : okGraph n gp = true) (f : Nat → Int) (h : ∀ j, j < gp.length → f (pl gp j).src.toNat + wgt a b (pl gp j) ≤ f (pl gp j).dst.toNat) : ¬ OverC gp a b 0 := by
  intro ho
  obtain ⟨L, q, hc, _, hs⟩ := ho.least
  have key : ∀ k, sumZ k (fun t => wgt a b (pl gp (q t))) ≤ f (pl gp (q k)).src.toNat - f (pl gp (q 0)).src.toNat := by
    intro k
    induction k with
    | zero => simp [sumZ]
    | succ k ih =>
      have h1 := h (q k) (hc.lt k)
      rw [hc.nx k] at h1
      simp only [sumZ]
      omega
  have h1 := key L
  have h2 := hc.per 0
  rw [Nat.zero_add] at h2
  rw [h2] at h1
  omega
/-! ### the reference's search -/
structure PathC (gp : List Place) (p : List Nat) : Prop where
  ne : p ≠ []
  lt : ∀ x ∈ p, x < gp.length
  nd : (p.map fun x => (pl gp x).src).Nodup
  nx : ∀ i (h : i + 1 < p.length), (pl gp (p[i]'(by omega))).dst = (pl gp p[i + 1]).src
  lo : ∀ x ∈ p, (pl gp (p.headD 0)).src ≤ (pl gp x).src
  la : (pl gp (p.headD 0)).src ≤ (pl gp (p.getLastD 0)).dst
  fr : (pl gp (p.getLastD 0)).dst = (pl gp (p.headD 0)).src ∨ ∀ x ∈ p, (pl gp x).src ≠ (pl gp (p.getLastD 0)).dst
/-- No circuit that begins so is more than ov. -/
def BarrenC (gp : List Place) (a b ov : Int) (p : List Nat) : Prop := ∀ L q, Circ gp L q → (∀ j, (pl gp (q 0)).src.toNat ≤ (pl gp (q j)).src.toNat) → (∀ i (h : i < p.length), q i = p[i]) → sumZ L (fun t => wgt a b (pl gp (q t))) ≤ ov
def FoundC (gp : List Place) (a b ov : Int) (p out : List Nat) : Prop := (out = [] → BarrenC gp a b ov p) ∧ (out ≠ [] → circuitB gp (ints out) = true ∧ ov < cwL a b gp (ints out))
theorem getLastD_snoc (p : List Nat) (i : Nat) : (p ++ [i]).getLastD 0 = i := by simp
theorem headD_snoc {p : List Nat} (h : p ≠ []) (i : Nat) : (p ++ [i]).headD 0 = p.headD 0 := by
  cases p with
  | nil => exact absurd rfl h
  | cons a p => rfl
theorem last_getC {l : List Nat} (h : l ≠ []) : l.getLastD 0 = l[l.length - 1]'(by have := List.length_pos_iff.2 h; omega) := by
  rw [List.getLastD_eq_getLast?, List.getLast?_eq_getElem?, List.getElem?_eq_getElem (by have := List.length_pos_iff.2 h; omega), Option.getD_some]
theorem head_getC {l : List Nat} (h : l ≠ []) : l.headD 0 = l[0]'(List.length_pos_iff.2 h) := by
  cases l with
  | nil => exact absurd rfl h
  | cons a l => rfl
theorem PathC.len {gp : List Place} {n : Nat} {p : List Nat} (h : PathC gp p) (hg : okGraph n gp = true) : p.length ≤ n := by
  have h1 : ((p.map fun x => (pl gp x).src).map Int.toNat).Nodup := by
    unfold List.Nodup
    rw [List.pairwise_map]
    refine List.Pairwise.imp_of_mem (fun {x y} hx hy hxy he => hxy ?_) h.nd
    obtain ⟨i, hi, rfl⟩ := List.mem_map.1 hx
    obtain ⟨j, hj, rfl⟩ := List.mem_map.1 hy
    have k1 := okGraph_place hg (pl_mem (h.lt i hi))
    have k2 := okGraph_place hg (pl_mem (h.lt j hj))
    omega
  have h2 := nodup_len n _ h1 (fun x hx => by
    obtain ⟨y, hy, rfl⟩ := List.mem_map.1 hx
    obtain ⟨i, hi, rfl⟩ := List.mem_map.1 hy
    have k1 := okGraph_place hg (pl_mem (h.lt i hi))
    omega)
  simpa using h2
theorem PathC.one {gp : List Place} {i : Nat} (hi : i < gp.length) (h : (pl gp i).src ≤ (pl gp i).dst) : PathC gp [i] := by
  refine ⟨by simp, by simpa using hi, by simp, fun j hj => by simp at hj, by simp, by simpa using h, ?_⟩
  by_cases e : (pl gp i).dst = (pl gp i).src
  · left; simpa using e
  · right; intro x hx; simp at hx; subst hx; simp; exact fun e2 => e e2.symm
theorem PathC.snoc {gp : List Place} {p : List Nat} {i : Nat} (h : PathC gp p) (hopen : (pl gp (p.getLastD 0)).dst ≠ (pl gp (p.headD 0)).src) (hi : i < gp.length) (h1 : (pl gp i).src = (pl gp (p.getLastD 0)).dst)
    (h2 : (pl gp (p.headD 0)).src ≤ (pl gp i).dst) (h3 : (pl gp i).dst = (pl gp (p.headD 0)).src ∨ ∀ x ∈ p, (pl gp x).src ≠ (pl gp i).dst ∧ (pl gp x).dst ≠ (pl gp i).dst) : PathC gp (p ++ [i]) := by
  have hfr : ∀ x ∈ p, (pl gp x).src ≠ (pl gp i).src := by
    rw [h1]
    rcases h.fr with e | e
    · exact absurd e hopen
    · exact e
  have hlen := List.length_pos_iff.2 h.ne
  refine ⟨by simp, fun x hx => ?_, ?_, fun j hj => ?_, fun x hx => ?_, ?_, ?_⟩
  · rcases List.mem_append.1 hx with hx | hx
    · exact h.lt x hx
    · rw [List.mem_singleton.1 hx]; exact hi
  · rw [List.map_append, List.nodup_append]
    refine ⟨h.nd, by simp, fun x hx y hy => ?_⟩
    obtain ⟨z, hz, rfl⟩ := List.mem_map.1 hx
    simp at hy
    subst hy
    exact hfr z hz
  · simp only [List.length_append, List.length_singleton] at hj
    rcases Nat.lt_or_ge (j + 1) p.length with hlt | hge
    · rw [List.getElem_append_left (by omega), List.getElem_append_left hlt]
      exact h.nx j hlt
    · have e : j + 1 = p.length := by omega
      rw [List.getElem_append_left (by omega), List.getElem_append_right (by omega)]
      have e2 : p[j]'(by omega) = p.getLastD 0 := by rw [last_getC h.ne]; congr 1; omega
      rw [e2, ← h1]
      simp
  · rw [headD_snoc h.ne]
    rcases List.mem_append.1 hx with hx | hx
    · exact h.lo x hx
    · rw [List.mem_singleton.1 hx, h1]; exact h.la
  · rw [headD_snoc h.ne, getLastD_snoc]; exact h2
  · rw [headD_snoc h.ne, getLastD_snoc]
    by_cases e : (pl gp i).dst = (pl gp (p.headD 0)).src
    · exact .inl e
    · right
      rcases h3 with h3 | h3
      · exact absurd h3 e
      · intro x hx
        rcases List.mem_append.1 hx with hx | hx
        · exact (h3 x hx).1
        · rw [List.mem_singleton.1 hx, h1]
          have := (h3 _ (show p.getLastD 0 ∈ p by rw [last_getC h.ne]; exact List.getElem_mem _)).2
          exact this
/-- A path that has come round is a circuit. -/
theorem PathC.circ {gp : List Place} {p : List Nat} (h : PathC gp p) (hc : (pl gp (p.getLastD 0)).dst = (pl gp (p.headD 0)).src) : circuitB gp (ints p) = true := by
  have hlen := List.length_pos_iff.2 h.ne
  refine (circuit_iff _ _).2 ⟨by rw [ints_len]; exact hlen, ints_all h.lt, fun k hk j hj => ?_, fun k hk => ?_⟩
  · rw [ints_len] at hk
    rw [plc_ints hk, plc_ints (by omega : j < p.length)]
    have := List.pairwise_iff_getElem.1 h.nd j k (by simp; omega) (by simpa using hk) hj
    simpa using this
  · rw [ints_len] at hk ⊢
    rcases Nat.lt_or_ge (k + 1) p.length with h1 | h1
    · rw [Nat.mod_eq_of_lt h1, plc_ints hk, plc_ints h1]
      exact h.nx k h1
    · have e : k + 1 = p.length := by omega
      rw [e, Nat.mod_self, plc_ints hk, plc_ints hlen]
      rw [last_getC h.ne, head_getC h.ne] at hc
      have e2 : p[k] = p[p.length - 1]'(by omega) := by congr 1; omega
      rw [e2]
      exact hc
/-- A circuit whose beginning is a path that has come round is that path. -/
theorem barren_closed {gp : List Place} {a b ov : Int} {p : List Nat} (h : PathC gp p) (hc : (pl gp (p.getLastD 0)).dst = (pl gp (p.headD 0)).src) (hw : cwL a b gp (ints p) ≤ ov) : BarrenC gp a b ov p := by
  have hlen := List.length_pos_iff.2 h.ne
  intro L q hq hmin hpre
  have hL : L = p.length ∨ L < p.length ∨ p.length < L := by omega
  have h0 : q 0 = p.headD 0 := by rw [head_getC h.ne]; exact hpre 0 hlen
  have hla : q (p.length - 1) = p.getLastD 0 := by rw [last_getC h.ne]; exact hpre _ (by omega)
  have hend : (pl gp (q p.length)).src = (pl gp (q 0)).src := by
    have := hq.nx (p.length - 1)
    rw [show p.length - 1 + 1 = p.length by omega] at this
    rw [← this, hla, hc, h0]
  rcases hL with e | e | e
  · rw [cwL_eq, ints_len] at hw
    rw [e]
    refine Int.le_trans (Int.le_of_eq (sumZ_congr _ fun t ht => ?_)) hw
    rw [plc_ints ht, hpre t ht]
  · exfalso
    have h1 := hq.per 0
    rw [Nat.zero_add] at h1
    have := List.pairwise_iff_getElem.1 h.nd 0 L (by simp; omega) (by simpa using e) hq.pos
    simp only [List.getElem_map] at this
    rw [← hpre L e, ← hpre 0 hlen, h1] at this
    exact this rfl
  · exact absurd hend.symm (hq.inj 0 p.length hlen e)
theorem barren_open {gp : List Place} {a b ov : Int} {n : Nat} (hg : okGraph n gp = true) {p : List Nat} (h : PathC gp p) (hc : (pl gp (p.getLastD 0)).dst ≠ (pl gp (p.headD 0)).src)
    (hall : ∀ i, i < gp.length → (pl gp i).src = (pl gp (p.getLastD 0)).dst → (pl gp (p.headD 0)).src ≤ (pl gp i).dst → ((pl gp i).dst = (pl gp (p.headD 0)).src ∨ ∀ x ∈ p, (pl gp x).src ≠ (pl gp i).dst ∧ (pl gp x).dst ≠ (pl gp i).dst) → BarrenC gp a b ov (p ++ [i])) : BarrenC gp a b ov p := by
  have hlen := List.length_pos_iff.2 h.ne
  intro L q hq hmin hpre
  have h0 : q 0 = p.headD 0 := by rw [head_getC h.ne]; exact hpre 0 hlen
  have hla : q (p.length - 1) = p.getLastD 0 := by rw [last_getC h.ne]; exact hpre _ (by omega)
  have hend : (pl gp (q p.length)).src = (pl gp (p.getLastD 0)).dst := by
    have := hq.nx (p.length - 1)
    rw [show p.length - 1 + 1 = p.length by omega] at this
    rw [← this, hla]
  have hL : p.length < L := by
    rcases Nat.lt_or_ge p.length L with e | e
    · exact e
    · exfalso
      rcases Nat.lt_or_ge L p.length with e2 | e2
      · have h1 := hq.per 0
        rw [Nat.zero_add] at h1
        have := List.pairwise_iff_getElem.1 h.nd 0 L (by simp; omega) (by simpa using e2) hq.pos
        simp only [List.getElem_map] at this
        rw [← hpre L e2, ← hpre 0 hlen, h1] at this
        exact this rfl
      · have e3 : p.length = L := by omega
        have h1 := hq.per 0
        rw [Nat.zero_add, ← e3] at h1
        rw [h1, h0] at hend
        exact hc hend.symm
  have hnn : ∀ j, 0 ≤ (pl gp (q j)).src := fun j => (okGraph_place hg (pl_mem (hq.lt j))).1.1
  refine hall (q p.length) (hq.lt _) hend ?_ ?_ L q hq hmin (fun i hi => ?_)
  · rw [hq.nx, ← h0]
    have := hmin (p.length + 1)
    have k1 := hnn 0
    have k2 := hnn (p.length + 1)
    omega
  · rw [hq.nx, ← h0]
    rcases Nat.lt_or_ge (p.length + 1) L with e | e
    · right
      intro x hx
      obtain ⟨j, hj, rfl⟩ := List.mem_iff_getElem.1 hx
      rw [← hpre j hj]
      refine ⟨hq.inj j _ (by omega) e, ?_⟩
      rw [hq.nx]
      exact hq.inj (j + 1) _ (by omega) e
    · left
      have e2 : p.length + 1 = 0 + L := by omega
      rw [e2, hq.per]
  · simp only [List.length_append, List.length_singleton] at hi
    rcases Nat.lt_or_ge i p.length with e | e
    · rw [List.getElem_append_left e]; exact hpre i e
    · have e2 : i = p.length := by omega
      subst e2
      simp
theorem barren_down {gp : List Place} {a b ov : Int} {n i : Nat} (hg : okGraph n gp = true) (hi : i < gp.length) (h : (pl gp i).dst < (pl gp i).src) : BarrenC gp a b ov [i] := by
  intro L q hq hmin hpre
  exfalso
  have h0 := hpre 0 (by simp)
  simp at h0
  have h1 := hq.nx 0
  have h2 := hmin 1
  have k1 := (okGraph_place hg (pl_mem (hq.lt 0))).1.1
  have k2 := (okGraph_place hg (pl_mem (hq.lt 1))).1.1
  rw [h0] at h1 h2 k1
  simp only [Nat.zero_add] at h1
  omega
theorem all_barrenC {gp : List Place} {a b ov : Int} (h : ∀ i, i < gp.length → BarrenC gp a b ov [i]) : ¬ OverC gp a b ov := by
  intro ho
  obtain ⟨L, q, hc, hmin, hs⟩ := ho.least
  have := h (q 0) (hc.lt 0) L q hc hmin (fun i hi => by simp at hi; subst hi; rfl)
  omega
/-! ### what the program's search finds -/
theorem better_circ {gp : List Place} {k i T n : Nat} {W a b : Int} {S : Bf} (h : BfOk gp.length (fun j => (pl gp j).src.toNat) (fun j => (pl gp j).dst.toNat) (fun j => wgt a b (pl gp j)) W k i T S) (hg : okGraph n gp = true)
    (u L : Nat) (hL : 0 < L) (hc : backB (fun j => (pl gp j).src.toNat) S u L = u) (hmin : ∀ t, 0 < t → t < L → backB (fun j => (pl gp j).src.toNat) S u t ≠ u) (hr : ∀ t, 0 < S.r (backB (fun j => (pl gp j).src.toNat) S u t)) :
    circuitB gp (ints (((List.range L).map fun t => S.by_ (backB (fun j => (pl gp j).src.toNat) S u t)).reverse)) = true ∧ 0 < cwL a b gp (ints (((List.range L).map fun t => S.by_ (backB (fun j => (pl gp j).src.toNat) S u t)).reverse)) := by
  have hp := cycle_pos h u L hL hc hr
  have hpr := fun t => h.pred _ (hr t)
  generalize hE : backB (fun j => (pl gp j).src.toNat) S u = E at *
  have hE0 : E 0 = u := by rw [← hE]; rfl
  have hE1 : ∀ t, E (t + 1) = (pl gp (S.by_ (E t))).src.toNat := fun t => by rw [← hE]; rfl
  have hadd : ∀ x y, E (x + y) = backB (fun j => (pl gp j).src.toNat) S (E x) y := fun x y => by rw [← hE, back_add]
  have hrev : ((List.range L).map fun t => S.by_ (E t)).reverse = (List.range L).map fun j => S.by_ (E (L - 1 - j % L)) := by
    refine List.ext_getElem (by simp) fun j h1 h2 => ?_
    simp only [List.length_map, List.length_range] at h2
    rw [List.getElem_reverse, List.getElem_map, List.getElem_map, List.getElem_range, List.getElem_range, Nat.mod_eq_of_lt h2]
    simp
  rw [hrev]
  have hcirc : Circ gp L (fun j => S.by_ (E (L - 1 - j % L))) := by
    have hlt : ∀ t, S.by_ (E t) < gp.length := fun t => (hpr t).1
    have hdst : ∀ t, (pl gp (S.by_ (E t))).dst = (E t : Int) := fun t => by
      have h1 : (pl gp (S.by_ (E t))).dst.toNat = E t := (hpr t).2.1
      have h2 := okGraph_place hg (pl_mem (hlt t))
      omega
    have hsrc : ∀ t, (pl gp (S.by_ (E t))).src = (E (t + 1) : Int) := fun t => by
      have h2 := okGraph_place hg (pl_mem (hlt t))
      rw [hE1]
      omega
    have hdis : ∀ x y, 0 < x → x < y → y ≤ L → E x ≠ E y := fun x y hx hxy hy he => by
      have h1 := hadd x (L - y)
      rw [he, ← hadd, show y + (L - y) = L by omega, hc] at h1
      exact hmin (x + (L - y)) (by omega) (by omega) h1
    refine ⟨hL, fun j => by simp only [Nat.add_mod_right], fun j => hlt _, fun j => ?_, fun x y hxy hy => ?_⟩
    · have h1 := Nat.mod_lt j hL
      rw [hdst, hsrc]
      congr 1
      rcases mod_step j L hL with e | ⟨e1, e2⟩
      · rw [e]
        have h2 := Nat.mod_lt (j + 1) hL
        congr 1; omega
      · rw [e2, show L - 1 - j % L = 0 by omega, show L - 1 - 0 + 1 = L by omega, hE0, hc]
    · rw [hsrc, hsrc, Nat.mod_eq_of_lt hy, Nat.mod_eq_of_lt (by omega)]
      have := hdis (L - 1 - y + 1) (L - 1 - x + 1) (by omega) (by omega) (by omega)
      intro e
      omega
  refine ⟨list_of_circ hcirc, ?_⟩
  rw [list_of_circ_sum]
  have h1 : sumZ L (fun t => wgt a b (pl gp (S.by_ (E (L - 1 - t % L))))) = sumZ L (fun t => wgt a b (pl gp (S.by_ (E (L - 1 - t))))) := sumZ_congr _ fun t ht => by rw [Nat.mod_eq_of_lt ht]
  rw [h1, sumZ_back (fun t => wgt a b (pl gp (S.by_ (E t))))]
  exact hp
/-! ### is there a circuit -/
def arcP (gp : List Place) (u v : Nat) : Prop := ∃ i, i < gp.length ∧ (pl gp i).src = (u : Int) ∧ (pl gp i).dst = (v : Int)
open Classical in
noncomputable def pickP (gp : List Place) (u v : Nat) : Nat := if h : arcP gp u v then Classical.choose h else 0
theorem pickP_ok {gp : List Place} {u v : Nat} (h : arcP gp u v) : pickP gp u v < gp.length ∧ (pl gp (pickP gp u v)).src = (u : Int) ∧ (pl gp (pickP gp u v)).dst = (v : Int) := by
  unfold pickP
  rw [dif_pos h]
  exact Classical.choose_spec h
theorem circ_of_closed {gp : List Place} {n L : Nat} {c : Nat → Nat} (h : Closed (arcP gp) n L c) : ∃ m, circuitB gp m = true := by
  obtain ⟨L', c', ⟨h1, h2, h3, h4⟩, hinj, _⟩ := h.simple
  refine ⟨_, list_of_circ (L := L') (q := fun t => pickP gp (c' t) (c' (t + 1))) ⟨h1, fun i => ?_, fun i => (pickP_ok (h4 i)).1, fun i => ?_, fun i j hij hj => ?_⟩⟩
  · show pickP gp (c' (i + L')) (c' (i + L' + 1)) = _
    rw [h2, show i + L' + 1 = i + 1 + L' by omega, h2]
  · rw [(pickP_ok (h4 i)).2.2, (pickP_ok (h4 (i + 1))).2.1]
  · rw [(pickP_ok (h4 i)).2.1, (pickP_ok (h4 j)).2.1]
    have := hinj i j hij hj
    omega
/-- A way of k steps. -/
def Way (gp : List Place) (k : Nat) (c : Nat → Nat) : Prop := ∀ t, t < k → arcP gp (c t) (c (t + 1))
theorem closed_of_way {gp : List Place} {n k : Nat} {c : Nat → Nat} (h : Way gp k c) (hlt : ∀ t, t ≤ k → c t < n) (hc : arcP gp (c k) (c 0)) : Closed (arcP gp) n (k + 1) (fun t => c (t % (k + 1))) := by
  refine ⟨by omega, fun t => by simp only [Nat.add_mod_right], fun t => hlt _ (by have := Nat.mod_lt t (show 0 < k + 1 by omega); omega), fun t => ?_⟩
  have h1 := Nat.mod_lt t (show 0 < k + 1 by omega)
  rcases mod_step t (k + 1) (by omega) with e | ⟨e1, e2⟩
  · simp only
    have h2 := Nat.mod_lt (t + 1) (show 0 < k + 1 by omega)
    rw [e]
    exact h _ (by omega)
  · simp only
    rw [e2, show t % (k + 1) = k by omega]
    exact hc
theorem tok_arc {gp : List Place} {n : Nat} (hg : okGraph n gp = true) {i j : Nat} (h : tokF gp i j ≠ bot) : arcP gp j i := by
  have hw := wgtF_from (fun p => - p.tokens) gp gp.length (Nat.le_refl _) i j
  rw [List.take_length] at hw
  rcases hw with hw | ⟨p, hp, e1, e2, _⟩
  · exact absurd hw h
  · obtain ⟨k, hk, rfl⟩ := List.mem_iff_getElem.1 hp
    have := okGraph_place hg (List.getElem_mem hk)
    exact ⟨k, hk, by rw [pl_at hk]; omega, by rw [pl_at hk]; omega⟩
theorem arc_tok {gp : List Place} {n : Nat} (hg : okGraph n gp = true) {u v : Nat} (h : arcP gp u v) : tokF gp v u ≠ bot := by
  obtain ⟨i, hi, h1, h2⟩ := h
  have h3 := wgtF_up (fun p => - p.tokens) gp (pl gp i) (pl_mem hi)
  have h4 := okGraph_place hg (pl_mem hi)
  rw [h1, h2, Int.toNat_natCast, Int.toNat_natCast] at h3
  unfold tokF
  unfold bot
  omega
theorem way_of_it {gp : List Place} {n : Nat} (hg : okGraph n gp = true) : ∀ m i j, i < n → j < n → itF n (tokF gp) m i j ≠ bot → ∃ k c, Way gp k c ∧ c 0 = j ∧ c k = i ∧ ∀ t, t ≤ k → c t < n := by
  intro m
  induction m with
  | zero =>
    intro i j hi hj h
    by_cases e : i = j
    · subst e
      exact ⟨0, fun _ => i, fun t ht => absurd ht (by omega), rfl, rfl, fun _ _ => hi⟩
    · exact absurd (if_neg e) h
  | succ m ih =>
    intro i j hi hj h
    have h' : max (unitF i j) (mulF n (tokF gp) (itF n (tokF gp) m) i j) ≠ bot := h
    by_cases e : i = j
    · subst e
      exact ⟨0, fun _ => i, fun t ht => absurd ht (by omega), rfl, rfl, fun _ _ => hi⟩
    · have hu : unitF i j = bot := if_neg e
      rw [hu] at h'
      have hne : mulF n (tokF gp) (itF n (tokF gp) m) i j ≠ bot := by intro e2; rw [e2] at h'; exact h' (Int.max_self _)
      rcases sumT_mem n (fun k => tms (tokF gp i k) (itF n (tokF gp) m k j)) with e2 | ⟨x, hx, e2⟩
      · exact absurd e2 hne
      · have e3 : tms (tokF gp i x) (itF n (tokF gp) m x j) ≠ bot := by rw [← e2]; exact hne
        obtain ⟨f1, f2, _⟩ := tms_ne e3
        obtain ⟨k, c, w1, w2, w3, w4⟩ := ih x j hx hj f2
        have ha := tok_arc hg f1
        refine ⟨k + 1, fun t => if t ≤ k then c t else i, fun t ht => ?_, ?_, ?_, fun t _ => ?_⟩
        · simp only
          rw [if_pos (by omega)]
          by_cases e4 : t + 1 ≤ k
          · rw [if_pos e4]; exact w1 t (by omega)
          · rw [if_neg e4]
            have : t = k := by omega
            rw [this, w3]; exact ha
        · simp only; rw [if_pos (Nat.zero_le _)]; exact w2
        · simp only; rw [if_neg (by omega)]
        · simp only
          split
          · exact w4 t (by omega)
          · exact hi
/-- There is a circuit: some place's end is reached back from its begin. -/
theorem has_circuit {gp : List Place} {n : Nat} (hg : okGraph n gp = true) : (∃ p ∈ gp, 0 ≤ distD n gp p.dst.toNat p.src.toNat) ↔ ∃ m, circuitB gp m = true := by
  have hge := okGraph_ev hg
  have hdist : ∀ f i, f < n → i < n → (0 ≤ distD n gp f i ↔ itF n (tokF gp) n i f ≠ bot) := fun f i hf hi => by
    have h1 := distD_small hg f i hf hi
    have h2 := h1.2.2
    unfold distD
    by_cases e : itF n (tokF gp) n i f = bot
    · rw [if_pos e]; simp [e]
    · rw [if_neg e]
      rcases h2 with h2 | h2
      · exact absurd h2 e
      · exact ⟨fun _ => e, fun _ => by omega⟩
  constructor
  · rintro ⟨p, hp, h⟩
    have hb := okGraph_place hg hp
    rw [hdist _ _ (by omega) (by omega)] at h
    obtain ⟨k, c, w1, w2, w3, w4⟩ := way_of_it hg n _ _ (by omega) (by omega) h
    obtain ⟨i, hi, rfl⟩ := List.mem_iff_getElem.1 hp
    refine circ_of_closed (closed_of_way w1 w4 ⟨i, hi, ?_, ?_⟩)
    · rw [pl_at hi, w3]; omega
    · rw [pl_at hi, w2]; omega
  · rintro ⟨m, hm⟩
    have hc := circ_of_list hm
    generalize (fun i => (m.getD (i % m.length) 0).toNat) = q at hc
    have hpl := fun t => okGraph_place hg (pl_mem (hc.lt t))
    refine ⟨pl gp (q 0), pl_mem (hc.lt 0), ?_⟩
    have h0 := hpl 0
    rw [hdist _ _ (by omega) (by omega)]
    have hs := it_sol (tok_fin hg n) (by omega) (by omega) (by omega) (tok_it hg (by omega))
    have key : ∀ t, itF n (tokF gp) n (pl gp (q (t + 1))).src.toNat (pl gp (q 0)).dst.toNat ≠ bot := by
      intro t
      induction t with
      | zero =>
        rw [← hc.nx 0]
        exact nonneg_ne (hs.1 _ (by omega))
      | succ t ih =>
        have h1 := hpl (t + 1)
        have h2 : arcP gp (pl gp (q (t + 1))).src.toNat (pl gp (q (t + 1))).dst.toNat := ⟨_, hc.lt (t + 1), by omega, by omega⟩
        rw [← hc.nx (t + 1)]
        exact (hs.2 _ _ _ (by omega) (by omega) (by omega) (arc_tok hg h2) ih).1
    have h2 := key (m.length - 1)
    have h3 := hc.per 0
    have h4 := hc.pos
    rw [show m.length - 1 + 1 = 0 + m.length by omega, h3] at h2
    exact h2
/-! ### the greatest ratio -/
theorem live_tokens {gp : List Place} {n : Nat} {m : List Int} (hg : okGraph n gp = true) (hl : ∃ o, orderF n gp = some o) (hm : circuitB gp m = true) : 0 < sumK gp m m.length := by
  have hall := ((circuit_iff gp m).1 hm).2.1
  have hsum := sums_le hg hall
  rcases Int.lt_or_le 0 (sumK gp m m.length) with h | h
  · exact h
  · exfalso
    have hz : ∀ k, k < m.length → (plc gp m k).tokens = 0 := by
      have key : ∀ d, d ≤ m.length → sumK gp m (m.length - d) = 0 := by
        intro d
        induction d with
        | zero => intro _; have := (hsum _ (Nat.le_refl _)).2; rw [Nat.sub_zero]; omega
        | succ d ih =>
          intro hd
          have h1 := ih (by omega)
          have h2 := (hsum (m.length - (d + 1)) (by omega)).2
          obtain ⟨q, _, hql, hqp⟩ := allB_place hall (m.length - (d + 1)) (by omega)
          have h3 := (okGraph_place hg (List.getElem_mem hql)).2.2.2
          have h4 := sumK_succ gp m (m.length - (d + 1))
          rw [show m.length - (d + 1) + 1 = m.length - d by omega, h1, hqp hql] at h4
          omega
      intro k hk
      have h1 := key (m.length - k) (by omega)
      have h2 := key (m.length - (k + 1)) (by omega)
      rw [show m.length - (m.length - k) = k by omega] at h1
      rw [show m.length - (m.length - (k + 1)) = k + 1 by omega, sumK_succ] at h2
      omega
    obtain ⟨o, ho⟩ := hl
    obtain ⟨c1, _, c3, c4⟩ := (circuit_iff gp m).1 hm
    have harc : ∀ k, k < m.length → arcG gp (plc gp m k).src.toNat (plc gp m ((k + 1) % m.length)).src.toNat := fun k hk => by
      obtain ⟨q, _, hql, hqp⟩ := allB_place hall k hk
      have h3 := okGraph_place hg (List.getElem_mem hql)
      rw [← c4 k hk]
      rw [← hqp hql] at h3
      exact ⟨plc gp m k, by rw [hqp hql]; exact List.getElem_mem hql, by omega, by omega, hz k hk⟩
    have : orderF n gp = none := order_of_cyc (l := (List.range m.length).map fun k => (plc gp m k).src.toNat) ⟨by intro e; have h9 := congrArg List.length e; simp at h9; rw [h9] at c1; exact absurd c1 (by simp), fun x hx => ?_, fun i hi => ?_, ?_⟩
    · rw [ho] at this; cases this
    · obtain ⟨k, hk, rfl⟩ := List.mem_map.1 hx
      obtain ⟨q, _, hql, hqp⟩ := allB_place hall k (List.mem_range.1 hk)
      have h3 := okGraph_place hg (List.getElem_mem hql)
      rw [hqp hql]
      omega
    · simp only [List.length_map, List.length_range] at hi
      have := harc i (by omega)
      rw [Nat.mod_eq_of_lt hi] at this
      simpa using this
    · have := harc (m.length - 1) (by omega)
      rw [show m.length - 1 + 1 = m.length by omega, Nat.mod_self] at this
      have hne : ((List.range m.length).map fun k => (plc gp m k).src.toNat) ≠ [] := by intro e; have h9 := congrArg List.length e; simp at h9; rw [h9] at c1; exact absurd c1 (by simp)
      rw [last_getC hne, head_getC hne]
      simpa using this
/-- a/b is the greatest ratio of a circuit, in lowest terms. -/
def IsMax (gp : List Place) (a b : Int) : Prop := 0 ≤ a ∧ 0 < b ∧ Nat.gcd a.toNat b.toNat = 1 ∧ ¬ OverC gp a b 0 ∧ ∃ m, circuitB gp m = true ∧ cwL a b gp m = 0
theorem cross_le {a b a' b' D M : Int} (hM : 0 < M) (hb : 0 < b) (hb' : 0 < b') (h1 : b * D - a * M = 0) (h2 : b' * D - a' * M ≤ 0) : a * b' ≤ a' * b := by
  have h3 : b * (b' * D) ≤ b * (a' * M) := Int.mul_le_mul_of_nonneg_left (by omega) (by omega)
  have h4 : b' * (b * D) = b' * (a * M) := by rw [show b * D = a * M by omega]
  have h5 : b * (b' * D) = b' * (b * D) := by rw [← Int.mul_assoc, ← Int.mul_assoc, Int.mul_comm b b']
  have h6 : a * b' * M ≤ a' * b * M := by
    have e1 : a * b' * M = b' * (a * M) := by rw [Int.mul_comm a b', Int.mul_assoc]
    have e2 : a' * b * M = b * (a' * M) := by rw [Int.mul_comm a' b, Int.mul_assoc]
    omega
  exact Int.le_of_mul_le_mul_right h6 hM
theorem low_uniq {a b a' b' : Int} (ha : 0 ≤ a) (hb : 0 < b) (ha' : 0 ≤ a') (hb' : 0 < b') (hg : Nat.gcd a.toNat b.toNat = 1) (hg' : Nat.gcd a'.toNat b'.toNat = 1) (h : a * b' = a' * b) : a = a' ∧ b = b' := by
  obtain ⟨x, rfl⟩ := Int.eq_ofNat_of_zero_le ha
  obtain ⟨y, rfl⟩ := Int.eq_ofNat_of_zero_le (show 0 ≤ b by omega)
  obtain ⟨x', rfl⟩ := Int.eq_ofNat_of_zero_le ha'
  obtain ⟨y', rfl⟩ := Int.eq_ofNat_of_zero_le (show 0 ≤ b' by omega)
  simp only [Int.toNat_natCast] at hg hg'
  have h' : x * y' = x' * y := by
    have : ((x * y' : Nat) : Int) = ((x' * y : Nat) : Int) := by rw [Int.natCast_mul, Int.natCast_mul]; exact h
    omega
  have d1 : y ∣ y' := Nat.Coprime.dvd_of_dvd_mul_left (k := y) (m := x) (n := y') (by unfold Nat.Coprime; rw [Nat.gcd_comm]; exact hg) ⟨x', by rw [h', Nat.mul_comm]⟩
  have d2 : y' ∣ y := Nat.Coprime.dvd_of_dvd_mul_left (k := y') (m := x') (n := y) (by unfold Nat.Coprime; rw [Nat.gcd_comm]; exact hg') ⟨x, by rw [← h', Nat.mul_comm]⟩
  have e : y = y' := Nat.dvd_antisymm d1 d2
  subst e
  have : x = x' := Nat.eq_of_mul_eq_mul_right (by omega) h'
  subst this
  exact ⟨rfl, rfl⟩
theorem max_uniq {gp : List Place} {n : Nat} {a b a' b' : Int} (hg : okGraph n gp = true) (hl : ∃ o, orderF n gp = some o) (h : IsMax gp a b) (h' : IsMax gp a' b') : a = a' ∧ b = b' := by
  obtain ⟨a1, a2, a3, a4, m, a5, a6⟩ := h
  obtain ⟨b1, b2, b3, b4, m', b5, b6⟩ := h'
  have k1 : cwL a' b' gp m ≤ 0 := by
    rcases Int.lt_or_le 0 (cwL a' b' gp m) with h | h
    · exact absurd ⟨m, a5, h⟩ b4
    · exact h
  have k2 : cwL a b gp m' ≤ 0 := by
    rcases Int.lt_or_le 0 (cwL a b gp m') with h | h
    · exact absurd ⟨m', b5, h⟩ a4
    · exact h
  have e1 := cross_le (live_tokens hg hl a5) a2 b2 a6 k1
  have e2 := cross_le (live_tokens hg hl b5) b2 a2 b6 k2
  exact low_uniq a1 a2 b1 b2 a3 b3 (by omega)
/-- The ratio of a list of places, in lowest terms. -/
def ratN (gp : List Place) (m : List Int) : Int := lowN (sumD gp m m.length).toNat (sumK gp m m.length).toNat
def ratD (gp : List Place) (m : List Int) : Int := lowD (sumD gp m m.length).toNat (sumK gp m m.length).toNat
theorem low_facts (x y : Nat) (hy : 0 < y) : 0 ≤ lowN x y ∧ 0 < lowD x y ∧ Nat.gcd (lowN x y).toNat (lowD x y).toNat = 1 ∧ lowN x y * y = lowD x y * x ∧ lowN x y ≤ x ∧ lowD x y ≤ y := by
  have hg : 0 < Nat.gcd x y := Nat.gcd_pos_of_pos_right _ hy
  have d1 := Nat.gcd_dvd_left x y
  have d2 := Nat.gcd_dvd_right x y
  unfold lowN lowD
  refine ⟨Int.natCast_nonneg _, ?_, ?_, ?_, ?_, ?_⟩
  · have := Nat.div_pos (Nat.le_of_dvd hy d2) hg
    omega
  · rw [Int.toNat_natCast, Int.toNat_natCast]; exact Nat.gcd_div_gcd_div_gcd_of_pos_right hy
  · rw [← Int.natCast_mul, ← Int.natCast_mul]
    congr 1
    obtain ⟨p, hp⟩ := d1
    obtain ⟨q, hq⟩ := d2
    have e1 : x / Nat.gcd x y = p := by conv => lhs; lhs; rw [hp]
                                        exact Nat.mul_div_cancel_left _ hg
    have e2 : y / Nat.gcd x y = q := by conv => lhs; lhs; rw [hq]
                                        exact Nat.mul_div_cancel_left _ hg
    rw [e1, e2]
    conv => lhs; rhs; rw [hq]
    conv => rhs; rhs; rw [hp]
    rw [← Nat.mul_assoc, ← Nat.mul_assoc, Nat.mul_comm p, Nat.mul_comm q, Nat.mul_assoc, Nat.mul_assoc, Nat.mul_comm p q]
  · have := Nat.div_le_self x (Nat.gcd x y); omega
  · have := Nat.div_le_self y (Nat.gcd x y); omega
theorem rat_facts {gp : List Place} {n : Nat} {m : List Int} (hg : okGraph n gp = true) (hl : ∃ o, orderF n gp = some o) (hm : circuitB gp m = true) :
    0 ≤ ratN gp m ∧ 0 < ratD gp m ∧ Nat.gcd (ratN gp m).toNat (ratD gp m).toNat = 1 ∧ cwL (ratN gp m) (ratD gp m) gp m = 0 ∧ ratN gp m ≤ sumD gp m m.length ∧ ratD gp m ≤ sumK gp m m.length := by
  have h1 := live_tokens hg hl hm
  have h2 := (sums_le hg ((circuit_iff gp m).1 hm).2.1 m.length (Nat.le_refl _)).1.1
  unfold cwL ratN ratD
  generalize sumD gp m m.length = D at *
  generalize sumK gp m m.length = M at *
  obtain ⟨x, rfl⟩ := Int.eq_ofNat_of_zero_le h2
  obtain ⟨y, rfl⟩ := Int.eq_ofNat_of_zero_le (show 0 ≤ M by omega)
  simp only [Int.toNat_natCast]
  obtain ⟨k1, k2, k3, k4, k5, k6⟩ := low_facts x y (by omega)
  exact ⟨k1, k2, k3, by omega, k5, k6⟩
/-- A circuit has at most n places. -/
theorem circuit_len {gp : List Place} {n : Nat} {m : List Int} (hg : okGraph n gp = true) (hm : circuitB gp m = true) : m.length ≤ n := by
  have hc := circ_of_list hm
  have h1 : ((List.range m.length).map fun i => (pl gp ((m.getD (i % m.length) 0).toNat)).src.toNat).Nodup := by
    unfold List.Nodup
    rw [List.pairwise_map]
    refine List.Pairwise.imp_of_mem (fun {x y} hx hy hxy he => ?_) (List.pairwise_lt_range (n := m.length))
    have k1 := okGraph_place hg (pl_mem (hc.lt x))
    have k2 := okGraph_place hg (pl_mem (hc.lt y))
    exact hc.inj x y hxy (List.mem_range.1 hy) (by omega)
  have h2 := nodup_len n _ h1 (fun x hx => by
    obtain ⟨i, _, rfl⟩ := List.mem_map.1 hx
    have k1 := okGraph_place hg (pl_mem (hc.lt i))
    omega)
  simpa using h2
/-- How many fractions D/M of small numbers are greater. -/
def muR (a b : Int) : Nat := ((List.range 10001).flatMap fun (D : Nat) => (List.range 51).map fun (M : Nat) => (((D : Int), (M : Int)) : Int × Int)).countP fun q => decide (0 < b * q.1 - a * q.2)
theorem countP_lt {α : Type} (l : List α) (p q : α → Bool) (h : ∀ x ∈ l, q x = true → p x = true) (y : α) (hy : y ∈ l) (h1 : p y = true) (h2 : q y = false) : l.countP q < l.countP p := by
  induction l with
  | nil => cases hy
  | cons x l ih =>
    rw [List.countP_cons, List.countP_cons]
    have hle : l.countP q ≤ l.countP p := List.countP_mono_left fun x hx => h x (List.mem_cons_of_mem _ hx)
    rcases List.mem_cons.1 hy with e | e
    · subst e
      rw [h1, h2]
      simp
      omega
    · have := ih (fun x hx => h x (List.mem_cons_of_mem _ hx)) e
      have hx := h x (List.mem_cons_self)
      cases hq : q x
      · simp; omega
      · rw [hx hq]; simp; omega
/-- A better circuit leaves fewer. -/
theorem muR_lt {gp : List Place} {n : Nat} {a b : Int} {m : List Int} (hg : okGraph n gp = true) (hl : ∃ o, orderF n gp = some o) (hb : 0 < b) (hm : circuitB gp m = true) (hw : 0 < cwL a b gp m) : muR (ratN gp m) (ratD gp m) < muR a b := by
  obtain ⟨r1, r2, r3, r4, r5, r6⟩ := rat_facts hg hl hm
  have h0 := live_tokens hg hl hm
  have hn := okGraph_ev hg
  have hlen := circuit_len hg hm
  obtain ⟨⟨s1, s2⟩, s3, s4⟩ := sums_le hg ((circuit_iff gp m).1 hm).2.1 m.length (Nat.le_refl _)
  unfold cwL at hw r4
  generalize sumD gp m m.length = D at *
  generalize sumK gp m m.length = M at *
  generalize ratN gp m = a' at *
  generalize ratD gp m = b' at *
  obtain ⟨x, rfl⟩ := Int.eq_ofNat_of_zero_le s1
  obtain ⟨y, rfl⟩ := Int.eq_ofNat_of_zero_le s3
  unfold muR
  refine countP_lt _ _ _ (fun q hq h => ?_) ((x : Int), (y : Int)) ?_ (decide_eq_true hw) (decide_eq_false (by simp only; omega))
  · obtain ⟨u, hu, hq⟩ := List.mem_flatMap.1 hq
    obtain ⟨v, hv, rfl⟩ := List.mem_map.1 hq
    simp only [decide_eq_true_eq] at h ⊢
    rcases Int.lt_or_le 0 (b * u - a * v) with h3 | h3
    · exact h3
    · exfalso
      rcases Nat.eq_zero_or_pos v with e | e
      · subst e
        simp only [Int.ofNat_zero, Int.mul_zero, Int.sub_zero, Int.natCast_zero] at h h3
        have : 0 < (u : Int) := by
          rcases Int.lt_or_le 0 (u : Int) with h4 | h4
          · exact h4
          · have : (u : Int) = 0 := by omega
            rw [this] at h; simp at h
        have := Int.mul_pos hb this
        omega
      · -- x/y = a'/b', u/v > a'/b', u/v ≤ a/b < x/y
        have hv0 : (0 : Int) < v := by omega
        have e1 : (v : Int) * (b' * u) > v * (a' * v) := Int.mul_lt_mul_of_pos_left (by omega) hv0
        have p1 : b * u * (b' * y) ≤ a * v * (b' * y) := Int.mul_le_mul_of_nonneg_right (by omega) (Int.mul_nonneg (by omega) (by omega))
        have p2 : a * y * (b' * v) < b * x * (b' * v) := Int.mul_lt_mul_of_pos_right (by omega) (Int.mul_pos r2 hv0)
        have p3 : b' * x * (b * v) = a' * y * (b * v) := by rw [show b' * (x : Int) = a' * y by omega]
        have p4 : a' * v * (b * y) < b' * u * (b * y) := Int.mul_lt_mul_of_pos_right (by omega) (Int.mul_pos hb h0)
        have q1 : b * u * (b' * y) = b' * u * (b * y) := by
          rw [Int.mul_comm b u, Int.mul_comm b' u, Int.mul_assoc, Int.mul_assoc]; congr 1
          rw [← Int.mul_assoc, ← Int.mul_assoc, Int.mul_comm b b']
        have q2 : a * v * (b' * y) = a * y * (b' * v) := by
          rw [Int.mul_assoc, Int.mul_assoc]; congr 1
          rw [Int.mul_comm b' (y : Int), ← Int.mul_assoc, Int.mul_comm (v : Int) y, Int.mul_assoc, Int.mul_comm (v : Int) b']
        have q3 : b * x * (b' * v) = b' * x * (b * v) := by
          rw [Int.mul_comm b (x : Int), Int.mul_comm b' (x : Int), Int.mul_assoc, Int.mul_assoc]; congr 1
          rw [← Int.mul_assoc, ← Int.mul_assoc, Int.mul_comm b b']
        have q4 : a' * y * (b * v) = a' * v * (b * y) := by
          rw [Int.mul_assoc, Int.mul_assoc]; congr 1
          rw [Int.mul_comm b (v : Int), ← Int.mul_assoc, Int.mul_comm (y : Int) v, Int.mul_assoc, Int.mul_comm (y : Int) b]
        omega
  · exact List.mem_flatMap.2 ⟨x, List.mem_range.2 (by omega), List.mem_map.2 ⟨y, List.mem_range.2 (by omega), rfl⟩⟩
end Go.Proofs.Ytcoomogabicfnaa
namespace Go.Proofs.Ytcoomogabicfnaa
open Go.RowKit
set_option linter.unusedVariables false
set_option linter.unusedSimpArgs false

/-- What CycleTime may give. -/
structure CtRes (ge : Int) (gp : List Place) (a b c : Int) : Prop where
  bad : okGraph ge gp = false → a = 0 ∧ b = 0 ∧ c = 1
  dead : okGraph ge gp = true → orderF ge.toNat gp = none → a = 0 ∧ b = 0 ∧ c = 5
  none : okGraph ge gp = true → (∃ o, orderF ge.toNat gp = some o) → (¬ ∃ m, circuitB gp m = true) → a = 0 ∧ b = 0 ∧ c = 4
  some : okGraph ge gp = true → (∃ o, orderF ge.toNat gp = some o) → (∃ m, circuitB gp m = true) → IsMax gp a b ∧ c = 0
theorem ct_uniq {ge : Int} {gp : List Place} {a b c a' b' c' : Int} (h : CtRes ge gp a b c) (h' : CtRes ge gp a' b' c') : a = a' ∧ b = b' ∧ c = c' := by
  cases hg : okGraph ge gp
  · obtain ⟨rfl, rfl, rfl⟩ := h.bad hg
    obtain ⟨rfl, rfl, rfl⟩ := h'.bad hg
    exact ⟨rfl, rfl, rfl⟩
  · have hge := okGraph_ev hg
    obtain ⟨n, rfl⟩ := Int.eq_ofNat_of_zero_le (show 0 ≤ ge by omega)
    cases ho : orderF (n : Int).toNat gp with
    | none =>
      obtain ⟨rfl, rfl, rfl⟩ := h.dead hg ho
      obtain ⟨rfl, rfl, rfl⟩ := h'.dead hg ho
      exact ⟨rfl, rfl, rfl⟩
    | some o =>
      by_cases hm : ∃ m, circuitB gp m = true
      · obtain ⟨h1, rfl⟩ := h.some hg ⟨o, ho⟩ hm
        obtain ⟨h2, rfl⟩ := h'.some hg ⟨o, ho⟩ hm
        obtain ⟨rfl, rfl⟩ := max_uniq hg ⟨o, by simpa using ho⟩ h1 h2
        exact ⟨rfl, rfl, rfl⟩
      · obtain ⟨rfl, rfl, rfl⟩ := h.none hg ⟨o, ho⟩ hm
        obtain ⟨rfl, rfl, rfl⟩ := h'.none hg ⟨o, ho⟩ hm
        exact ⟨rfl, rfl, rfl⟩
open Classical in
/-- What CycleTime gives. -/
noncomputable def ctF (ge : Int) (gp : List Place) : Int × Int × Int := if h : ∃ r : Int × Int × Int, CtRes ge gp r.1 r.2.1 r.2.2 then Classical.choose h else (0, 0, 0)
theorem ct_eq {ge : Int} {gp : List Place} {a b c : Int} (h : CtRes ge gp a b c) : ctF ge gp = (a, b, c) := by
  have hex : ∃ r : Int × Int × Int, CtRes ge gp r.1 r.2.1 r.2.2 := ⟨(a, b, c), h⟩
  unfold ctF
  rw [dif_pos hex]
  obtain ⟨h1, h2, h3⟩ := ct_uniq (Classical.choose_spec hex) h
  exact Prod.ext h1 (Prod.ext h2 h3)
theorem ct_bad {ge : Int} {gp : List Place} (hg : okGraph ge gp = false) : CtRes ge gp 0 0 1 := ⟨fun _ => ⟨rfl, rfl, rfl⟩, fun h => (by rw [hg] at h; cases h), fun h => (by rw [hg] at h; cases h), fun h => (by rw [hg] at h; cases h)⟩
theorem ct_dead {ge : Int} {gp : List Place} (hg : okGraph ge gp = true) (ho : orderF ge.toNat gp = none) : CtRes ge gp 0 0 5 := by
  refine ⟨fun h => (by rw [hg] at h; cases h), fun _ _ => ⟨rfl, rfl, rfl⟩, fun _ h => ?_, fun _ h => ?_⟩ <;> (obtain ⟨o, h⟩ := h; rw [ho] at h; cases h)
theorem ct_none {ge : Int} {gp : List Place} (hg : okGraph ge gp = true) (ho : ∃ o, orderF ge.toNat gp = some o) (hm : ¬ ∃ m, circuitB gp m = true) : CtRes ge gp 0 0 4 := by
  refine ⟨fun h => (by rw [hg] at h; cases h), fun _ h => ?_, fun _ _ _ => ⟨rfl, rfl, rfl⟩, fun _ _ h => absurd h hm⟩
  obtain ⟨o, ho⟩ := ho
  rw [ho] at h; cases h
theorem ct_some {ge : Int} {gp : List Place} {a b : Int} (hg : okGraph ge gp = true) (ho : ∃ o, orderF ge.toNat gp = some o) (hm : IsMax gp a b) : CtRes ge gp a b 0 := by
  refine ⟨fun h => (by rw [hg] at h; cases h), fun _ h => ?_, fun _ _ h => absurd ⟨_, hm.2.2.2.2.choose_spec.1⟩ h, fun _ _ _ => ⟨hm, rfl⟩⟩
  obtain ⟨o, ho⟩ := ho
  rw [ho] at h; cases h
/-- The ratio of a circuit that no other beats. -/
theorem max_of {gp : List Place} {n : Nat} {m : List Int} (hg : okGraph n gp = true) (hl : ∃ o, orderF n gp = some o) (hm : circuitB gp m = true) (hn : ¬ OverC gp (ratN gp m) (ratD gp m) 0) : IsMax gp (ratN gp m) (ratD gp m) := by
  obtain ⟨h1, h2, h3, h4, _⟩ := rat_facts hg hl hm
  exact ⟨h1, h2, h3, hn, m, hm, h4⟩
/-- Two circuits of one ratio have it in the same lowest terms. -/
theorem rat_same {gp : List Place} {n : Nat} {a b : Int} {m : List Int} (hg : okGraph n gp = true) (hl : ∃ o, orderF n gp = some o) (ha : 0 ≤ a) (hb : 0 < b) (hab : Nat.gcd a.toNat b.toNat = 1) (hm : circuitB gp m = true) (h0 : cwL a b gp m = 0) : ratN gp m = a ∧ ratD gp m = b := by
  obtain ⟨h1, h2, h3, h4, _⟩ := rat_facts hg hl hm
  have hM := live_tokens hg hl hm
  have e1 := cross_le hM hb h2 h0 (by show _ ≤ _; exact Int.le_of_eq h4)
  have e2 := cross_le hM h2 hb h4 (Int.le_of_eq h0)
  obtain ⟨p, q⟩ := low_uniq h1 h2 ha hb h3 hab (by omega)
  exact ⟨p, q⟩
theorem IsMax.le {gp : List Place} {n : Nat} {a b : Int} (h : IsMax gp a b) (hg : okGraph n gp = true) (hl : ∃ o, orderF n gp = some o) : a ≤ 10000 ∧ b ≤ 50 := by
  obtain ⟨h1, h2, h3, _, m, h4, h5⟩ := h
  obtain ⟨p, q⟩ := rat_same hg hl h1 h2 h3 h4 h5
  obtain ⟨_, _, _, _, h6, h7⟩ := rat_facts hg hl h4
  have hlen := circuit_len hg h4
  have hn := okGraph_ev hg
  obtain ⟨⟨_, s2⟩, _, s4⟩ := sums_le hg ((circuit_iff gp m).1 h4).2.1 m.length (Nat.le_refl _)
  omega
/-- The bounds of a circuit's ratio. -/
theorem rat_le {gp : List Place} {n : Nat} {m : List Int} (hg : okGraph n gp = true) (hl : ∃ o, orderF n gp = some o) (h4 : circuitB gp m = true) : 0 ≤ ratN gp m ∧ ratN gp m ≤ 10000 ∧ 0 < ratD gp m ∧ ratD gp m ≤ 50 := by
  obtain ⟨h1, h2, _, _, h6, h7⟩ := rat_facts hg hl h4
  have hlen := circuit_len hg h4
  have hn := okGraph_ev hg
  obtain ⟨⟨_, s2⟩, _, s4⟩ := sums_le hg ((circuit_iff gp m).1 h4).2.1 m.length (Nat.le_refl _)
  omega
/-- What the program's search has. -/
def RatSt (gp : List Place) (a b : Int) : Prop := (a = 0 ∧ b = 1) ∨ ∃ m, circuitB gp m = true ∧ a = ratN gp m ∧ b = ratD gp m
theorem RatSt.le {gp : List Place} {n : Nat} {a b : Int} (h : RatSt gp a b) (hg : okGraph n gp = true) (hl : ∃ o, orderF n gp = some o) : 0 ≤ a ∧ a ≤ 10000 ∧ 0 < b ∧ b ≤ 50 := by
  rcases h with ⟨rfl, rfl⟩ | ⟨m, hm, rfl, rfl⟩
  · decide
  · exact rat_le hg hl hm
theorem max_start {gp : List Place} {n : Nat} (hg : okGraph n gp = true) (hm : ∃ m, circuitB gp m = true) (hn : ¬ OverC gp 0 1 0) : IsMax gp 0 1 := by
  obtain ⟨m, hm⟩ := hm
  have h1 := (sums_le hg ((circuit_iff gp m).1 hm).2.1 m.length (Nat.le_refl _)).1.1
  refine ⟨by decide, by decide, by decide, hn, m, hm, ?_⟩
  rcases Int.lt_or_le 0 (cwL 0 1 gp m) with h | h
  · exact absurd ⟨m, hm, h⟩ hn
  · unfold cwL at h ⊢
    omega
theorem RatSt.max {gp : List Place} {n : Nat} {a b : Int} (h : RatSt gp a b) (hg : okGraph n gp = true) (hl : ∃ o, orderF n gp = some o) (hm : ∃ m, circuitB gp m = true) (hn : ¬ OverC gp a b 0) : IsMax gp a b := by
  rcases h with ⟨rfl, rfl⟩ | ⟨m, hm, rfl, rfl⟩
  · exact max_start hg hm hn
  · exact max_of hg hl hm hn
/-- A circuit that no other beats, found by the reference. -/
theorem max_found {gp : List Place} {n : Nat} {m m' : List Int} (hg : okGraph n gp = true) (hl : ∃ o, orderF n gp = some o) (hm : circuitB gp m = true) (hn : ¬ OverC gp (ratN gp m) (ratD gp m) 0) (hm' : circuitB gp m' = true) (hw : -1 < cwL (ratN gp m) (ratD gp m) gp m') : IsMax gp (ratN gp m') (ratD gp m') := by
  have hx := max_of hg hl hm hn
  obtain ⟨h1, h2, h3, h4, _⟩ := hx
  have h0 : cwL (ratN gp m) (ratD gp m) gp m' = 0 := by
    rcases Int.lt_or_le 0 (cwL (ratN gp m) (ratD gp m) gp m') with h | h
    · exact absurd ⟨m', hm', h⟩ hn
    · omega
  obtain ⟨e1, e2⟩ := rat_same hg hl h1 h2 h3 hm' h0
  rw [e1, e2]
  exact max_of hg hl hm hn
theorem over_own {gp : List Place} {n : Nat} {m : List Int} (hg : okGraph n gp = true) (hl : ∃ o, orderF n gp = some o) (hm : circuitB gp m = true) : OverC gp (ratN gp m) (ratD gp m) (-1) := by
  obtain ⟨_, _, _, h4, _⟩ := rat_facts hg hl hm
  exact ⟨m, hm, by omega⟩
theorem over_any {gp : List Place} {n : Nat} (hg : okGraph n gp = true) (h : ¬ OverC gp 0 1 (-1)) : ¬ ∃ m, circuitB gp m = true := by
  rintro ⟨m, hm⟩
  have h1 := (sums_le hg ((circuit_iff gp m).1 hm).2.1 m.length (Nat.le_refl _)).1.1
  exact h ⟨m, hm, by unfold cwL; omega⟩
/-- Do some places lead from, or to, an event? -/
def visB (gp : List Place) (p : List Nat) (e : Int) : Bool := p.any fun i => (pl gp i).src == e || (pl gp i).dst == e
theorem visB_take {gp : List Place} {p : List Nat} {e : Int} (h : ∀ j (hj : j < p.length), (pl gp p[j]).src ≠ e ∧ (pl gp p[j]).dst ≠ e) : visB gp p e = false := by
  unfold visB
  rw [List.any_eq_false]
  intro i hi
  obtain ⟨j, hj, rfl⟩ := List.mem_iff_getElem.1 hi
  have := h j hj
  simp [this.1, this.2]
theorem visB_at {gp : List Place} {p : List Nat} {e : Int} {j : Nat} (hj : j < p.length) (h : (pl gp p[j]).src = e ∨ (pl gp p[j]).dst = e) : visB gp p e = true := by
  unfold visB
  rw [List.any_eq_true]
  exact ⟨p[j], List.getElem_mem hj, by rcases h with h | h <;> simp [h]⟩
theorem visB_not {gp : List Place} {p : List Nat} {e : Int} (h : visB gp p e = false) : ∀ x ∈ p, (pl gp x).src ≠ e ∧ (pl gp x).dst ≠ e := by
  intro x hx
  unfold visB at h
  rw [List.any_eq_false] at h
  have := h x hx
  simpa using this
end Go.Proofs.Ytcoomogabicfnaa
