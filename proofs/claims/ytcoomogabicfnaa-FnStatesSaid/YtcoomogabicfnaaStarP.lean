/-
  The star of a matrix, by elimination and by repeated products: plain Lean, no program in sight.
-/
import Derived.Test.YtcoomogabicfnaaDelay
namespace Go.Proofs.Ytcoomogabicfnaa
open Go.RowKit
set_option linter.unusedVariables false
set_option linter.unusedSimpArgs false
/-! ### sums of values, matrices as functions -/
def tms (a b : Int) : Int := if a = bot ∨ b = bot then bot else a + b
theorem tms_ne {a b : Int} (h : tms a b ≠ bot) : a ≠ bot ∧ b ≠ bot ∧ tms a b = a + b := by
  unfold tms at h ⊢
  by_cases hab : a = bot ∨ b = bot
  · rw [if_pos hab] at h; exact absurd rfl h
  · rw [if_neg hab]; simp only [not_or] at hab; exact ⟨hab.1, hab.2, rfl⟩
theorem tms_eq {a b : Int} (ha : a ≠ bot) (hb : b ≠ bot) : tms a b = a + b := by simp [tms, ha, hb]
/-- The greatest of some values. -/
def sumT : Nat → (Nat → Int) → Int
  | 0, _ => bot
  | n + 1, f => max (sumT n f) (f n)
theorem sumT_ge_bot (n : Nat) (f : Nat → Int) : bot ≤ sumT n f := by
  induction n with
  | zero => exact Int.le_refl _
  | succ n ih => simp only [sumT]; omega
theorem sumT_ge (n : Nat) (f : Nat → Int) (k : Nat) (h : k < n) : f k ≤ sumT n f := by
  induction n with
  | zero => omega
  | succ n ih =>
    simp only [sumT]
    by_cases e : k = n
    · subst e; omega
    · have := ih (by omega); omega
theorem sumT_mem (n : Nat) (f : Nat → Int) : sumT n f = bot ∨ ∃ k, k < n ∧ sumT n f = f k := by
  induction n with
  | zero => exact .inl rfl
  | succ n ih =>
    simp only [sumT]
    by_cases h : sumT n f ≤ f n
    · exact .inr ⟨n, by omega, by omega⟩
    · rcases ih with e | ⟨k, hk, e⟩
      · exact .inl (by omega)
      · exact .inr ⟨k, by omega, by omega⟩
theorem sumT_congr (n : Nat) (f g : Nat → Int) (h : ∀ k, k < n → f k = g k) : sumT n f = sumT n g := by
  induction n with
  | zero => rfl
  | succ n ih => simp only [sumT]; rw [ih (fun k hk => h k (by omega)), h n (by omega)]
def unitF : Nat → Nat → Int := fun i j => if i = j then 0 else bot
def maxF (F G : Nat → Nat → Int) : Nat → Nat → Int := fun i j => max (F i j) (G i j)
def mulF (n : Nat) (F G : Nat → Nat → Int) : Nat → Nat → Int := fun i j => sumT n (fun k => tms (F i k) (G k j))
/-- One step of the elimination. -/
def elimF (k : Nat) (S : Nat → Nat → Int) : Nat → Nat → Int := fun i j => max (S i j) (tms (S i k) (S k j))
def fwF (F : Nat → Nat → Int) : Nat → Nat → Nat → Int
  | 0 => maxF F unitF
  | k + 1 => elimF k (fwF F k)
/-- No diagonal entry was found positive. -/
def fwOk (n : Nat) (F : Nat → Nat → Int) : Prop := (∀ k, k < n → fwF F k k k ≤ 0) ∧ ∀ k, k < n → fwF F n k k ≤ 0
def itF (n : Nat) (F : Nat → Nat → Int) : Nat → Nat → Nat → Int
  | 0 => unitF
  | m + 1 => maxF unitF (mulF n F (itF n F m))
def itOk (n : Nat) (F : Nat → Nat → Int) : Prop := ∀ i j, i < n → j < n → itF n F (n + 1) i j = itF n F n i j

/-! ### bounds -/
def fin (B x : Int) : Prop := x = bot ∨ (-B ≤ x ∧ x ≤ B)
theorem fin.mono {B C x : Int} (h : fin B x) (hc : B ≤ C) : fin C x := by
  rcases h with h | h
  · exact .inl h
  · exact .inr (by omega)
theorem fin_max {B x y : Int} (h : fin B x) (h' : fin B y) (hB : B ≤ 10000000000000) : fin B (max x y) := by
  unfold fin bot at *
  omega
theorem fin_tms {B C x y : Int} (h : fin B x) (h' : fin C y) (hB : 0 ≤ B) (hC : 0 ≤ C) : fin (B + C) (tms x y) := by
  by_cases e : tms x y = bot
  · exact .inl e
  · obtain ⟨a, b, e2⟩ := tms_ne e
    rcases h with h | h
    · exact absurd h a
    rcases h' with h' | h'
    · exact absurd h' b
    rw [e2]
    exact .inr (by omega)
theorem fin_sumT {B : Int} (n : Nat) (f : Nat → Int) (h : ∀ k, k < n → fin B (f k)) : fin B (sumT n f) := by
  rcases sumT_mem n f with e | ⟨k, hk, e⟩
  · exact .inl e
  · rw [e]; exact h k hk
theorem fin_unit {B : Int} (hB : 0 ≤ B) (i j : Nat) : fin B (unitF i j) := by
  unfold unitF
  split
  · exact .inr (by omega)
  · exact .inl rfl
/-- All entries are bottom or small. -/
def finM (n : Nat) (B : Int) (F : Nat → Nat → Int) : Prop := ∀ i j, i < n → j < n → fin B (F i j)
theorem finM_elim {n : Nat} {B : Int} {S : Nat → Nat → Int} (h : finM n B S) (hB : 0 ≤ B) (hB2 : B + B ≤ 10000000000000) (k : Nat) (hk : k < n) : finM n (B + B) (elimF k S) := fun i j hi hj =>
  fin_max ((h i j hi hj).mono (by omega)) (fin_tms (h i k hi hk) (h k j hk hj) hB hB) hB2
theorem finM_fw {n : Nat} {W : Int} {F : Nat → Nat → Int} (h : finM n W F) (hW : 0 ≤ W) (hW2 : W ≤ 5000000000) (hn : n ≤ 10) : ∀ k, k ≤ n → finM n (2 ^ k * W) (fwF F k) := by
  intro k
  induction k with
  | zero => intro _ i j hi hj; simp only [fwF, maxF]; exact fin_max (by simpa using h i j hi hj) (fin_unit (by simpa using hW) i j) (by simp; omega)
  | succ k ih =>
    intro hk
    have h1 := ih (by omega)
    have hp : (2 : Int) ^ k ≤ 512 := by
      have : k = 0 ∨ k = 1 ∨ k = 2 ∨ k = 3 ∨ k = 4 ∨ k = 5 ∨ k = 6 ∨ k = 7 ∨ k = 8 ∨ k = 9 := by omega
      rcases this with rfl | rfl | rfl | rfl | rfl | rfl | rfl | rfl | rfl | rfl <;> decide
    have hp0 : (0 : Int) ≤ 2 ^ k := Int.pow_nonneg (by omega)
    have h2 : 0 ≤ (2 : Int) ^ k * W := Int.mul_nonneg hp0 hW
    have h3 : (2 : Int) ^ k * W ≤ 512 * 5000000000 := Int.mul_le_mul hp hW2 hW (by omega)
    have h4 := finM_elim h1 h2 (by omega) k (by omega)
    rw [show (2 : Int) ^ (k + 1) * W = 2 ^ k * W + 2 ^ k * W by rw [Int.pow_succ, Int.mul_assoc, Int.mul_comm 2 W, ← Int.mul_assoc]; omega]
    exact h4
theorem finM_it {n : Nat} {W : Int} {F : Nat → Nat → Int} (h : finM n W F) (hW : 0 ≤ W) (hW2 : W ≤ 5000000000) : ∀ m : Nat, m ≤ 11 → finM n (m * W) (itF n F m) := by
  intro m
  induction m with
  | zero => intro _ i j hi hj; exact fin_unit (by simp) i j
  | succ m ih =>
    intro hm i j hi hj
    have h1 := ih (by omega)
    have h2 : (0 : Int) ≤ m * W := Int.mul_nonneg (by omega) hW
    have h3 : (m : Int) * W ≤ 10 * 5000000000 := Int.mul_le_mul (by omega) hW2 hW (by omega)
    have e : ((m + 1 : Nat) : Int) * W = W + m * W := by rw [Int.natCast_add, Int.add_mul]; simp; omega
    rw [e]
    exact fin_max (fin_unit (by omega) i j) (fin_sumT n _ fun k hk => fin_tms (h i k hi hk) (h1 k j hk hj) hW h2) (by omega)

/-! ### what lies above the closures -/
/-- x satisfies all arcs of F. -/
def SubO (n : Nat) (F : Nat → Nat → Int) (x : Nat → Option Int) : Prop := ∀ i m, i < n → m < n → F i m ≠ bot → ∀ a, x m = some a → ∃ b, x i = some b ∧ F i m + a ≤ b
theorem SubO.fw {n : Nat} {F : Nat → Nat → Int} {x : Nat → Option Int} (h : SubO n F x) : ∀ k, k ≤ n → SubO n (fwF F k) x := by
  intro k
  induction k with
  | zero =>
    intro _ i m hi hm hne a ha
    simp only [fwF, maxF] at hne ⊢
    by_cases hu : F i m ≤ unitF i m
    · have e : max (F i m) (unitF i m) = unitF i m := by omega
      rw [e] at hne ⊢
      by_cases him : i = m
      · subst him
        exact ⟨a, ha, by simp [unitF]⟩
      · exact absurd (by simp [unitF, him]) hne
    · have e : max (F i m) (unitF i m) = F i m := by omega
      rw [e] at hne ⊢
      exact h i m hi hm hne a ha
  | succ k ih =>
    intro hk i m hi hm hne a ha
    have h1 := ih (by omega)
    simp only [fwF, elimF] at hne ⊢
    generalize fwF F k = S at *
    by_cases hu : S i m ≤ tms (S i k) (S k m)
    · have e : max (S i m) (tms (S i k) (S k m)) = tms (S i k) (S k m) := by omega
      rw [e] at hne ⊢
      obtain ⟨h2, h3, e2⟩ := tms_ne hne
      obtain ⟨b, hb, hle⟩ := h1 k m (by omega) hm h3 a ha
      obtain ⟨c, hc, hle2⟩ := h1 i k hi (by omega) h2 b hb
      exact ⟨c, hc, by omega⟩
    · have e : max (S i m) (tms (S i k) (S k m)) = S i m := by omega
      rw [e] at hne ⊢
      exact h1 i m hi hm hne a ha
/-- The repeated products stay below what satisfies all arcs. -/
theorem it_le {n : Nat} {F : Nat → Nat → Int} {x : Nat → Option Int} (h : SubO n F x) (j : Nat) (hj : j < n) (a : Int) (ha : x j = some a) (h0 : 0 ≤ a) : ∀ m i, i < n → itF n F m i j ≠ bot → ∃ b, x i = some b ∧ itF n F m i j ≤ b := by
  have hu : ∀ i, unitF i j ≠ bot → ∃ b, x i = some b ∧ unitF i j ≤ b := by
    intro i hne
    by_cases him : i = j
    · subst him
      exact ⟨a, ha, by simpa [unitF] using h0⟩
    · exact absurd (by simp [unitF, him]) hne
  intro m
  induction m with
  | zero => intro i hi hne; exact hu i hne
  | succ m ih =>
    intro i hi hne
    simp only [itF, maxF] at hne ⊢
    by_cases hle : unitF i j ≤ mulF n F (itF n F m) i j
    · have e : max (unitF i j) (mulF n F (itF n F m) i j) = mulF n F (itF n F m) i j := by omega
      rw [e] at hne ⊢
      rcases sumT_mem n (fun k => tms (F i k) (itF n F m k j)) with e2 | ⟨k, hk, e2⟩
      · exact absurd e2 hne
      · have e3 : mulF n F (itF n F m) i j = tms (F i k) (itF n F m k j) := e2
        rw [e3] at hne ⊢
        obtain ⟨h2, h3, e4⟩ := tms_ne hne
        obtain ⟨b, hb, hle⟩ := ih k hk h3
        obtain ⟨c, hc, hle2⟩ := h i k hi hk h2 b hb
        exact ⟨c, hc, by omega⟩
    · have e : max (unitF i j) (mulF n F (itF n F m) i j) = unitF i j := by omega
      rw [e] at hne ⊢
      exact hu i hne
/-- A matrix whose columns satisfy all arcs of F. -/
def Sol (n : Nat) (F G : Nat → Nat → Int) : Prop := (∀ i, i < n → 0 ≤ G i i) ∧ ∀ i m j, i < n → m < n → j < n → F i m ≠ bot → G m j ≠ bot → G i j ≠ bot ∧ F i m + G m j ≤ G i j
def colO (G : Nat → Nat → Int) (j : Nat) : Nat → Option Int := fun i => if G i j = bot then none else some (G i j)
theorem nonneg_ne {x : Int} (h : 0 ≤ x) : x ≠ bot := by unfold bot; omega
theorem colO_some {G : Nat → Nat → Int} {j i : Nat} (h : G i j ≠ bot) : colO G j i = some (G i j) := if_neg h
theorem Sol.sub {n : Nat} {F G : Nat → Nat → Int} (h : Sol n F G) (j : Nat) (hj : j < n) : SubO n F (colO G j) := by
  intro i m hi hm hne a ha
  have h1 : G m j ≠ bot := by intro e; simp [colO, e] at ha
  rw [colO_some h1] at ha
  injection ha with ha
  obtain ⟨h2, h3⟩ := h.2 i m j hi hm hj hne h1
  exact ⟨_, colO_some h2, by omega⟩
/-- A potential: finite everywhere. -/
def Pot (n : Nat) (F : Nat → Nat → Int) (z : Nat → Int) : Prop := ∀ i m, i < n → m < n → F i m ≠ bot → F i m + z m ≤ z i
theorem Pot.sub {n : Nat} {F : Nat → Nat → Int} {z : Nat → Int} (h : Pot n F z) : SubO n F (fun i => some (z i)) := by
  intro i m hi hm hne a ha
  injection ha with ha
  exact ⟨_, rfl, by have := h i m hi hm hne; omega⟩
theorem Sol.pot {n : Nat} {F G : Nat → Nat → Int} (h : Sol n F G) : Pot n F (fun i => sumT n (G i)) := by
  intro i m hi hm hne
  have h0 := h.1 m hm
  have h1 := sumT_ge n (G m) m hm
  show F i m + sumT n (G m) ≤ sumT n (G i)
  rcases sumT_mem n (G m) with e | ⟨j, hj, e⟩
  · rw [e] at h1; unfold bot at h1; omega
  · rw [e] at h1 ⊢
    obtain ⟨h2, h3⟩ := h.2 i m j hi hm hj hne (nonneg_ne (by omega))
    have := sumT_ge n (G i) j hj
    omega

/-! ### elimination gives a solution -/
theorem fw_diag {n : Nat} (F : Nat → Nat → Int) : ∀ k i, 0 ≤ fwF F k i i := by
  intro k
  induction k with
  | zero => intro i; have : unitF i i = 0 := if_pos rfl; simp only [fwF, maxF]; omega
  | succ k ih => intro i; simp only [fwF, elimF]; have := ih i; omega
theorem fw_up (F : Nat → Nat → Int) (i j : Nat) : ∀ k, F i j ≤ fwF F k i j := by
  intro k
  induction k with
  | zero => simp only [fwF, maxF]; omega
  | succ k ih => simp only [fwF, elimF]; omega
theorem ne_of_fin {B x y : Int} (h : fin B x) (hx : x ≠ bot) (hB : B ≤ 10000000000000) (hy : x ≤ y) : y ≠ bot := by
  rcases h with h | h
  · exact absurd h hx
  · unfold bot; omega
theorem fw_closed {n : Nat} {W : Int} {F : Nat → Nat → Int} (h : finM n W F) (hW : 0 ≤ W) (hW2 : W ≤ 5000000000) (hn : n ≤ 10) (hd : ∀ k, k < n → fwF F k k k ≤ 0) :
    ∀ k, k ≤ n → ∀ m, m < k → ∀ i j, i < n → j < n → fwF F k i m ≠ bot → fwF F k m j ≠ bot → fwF F k i j ≠ bot ∧ fwF F k i m + fwF F k m j ≤ fwF F k i j := by
  intro k
  induction k with
  | zero => intro _ m hm; omega
  | succ k ih =>
    intro hk m hm i j hi hj h1 h2
    have hfin := finM_fw h hW hW2 hn (k + 1) hk
    have hp : (2 : Int) ^ (k + 1) * W ≤ 10000000000000 := by
      have hp : (2 : Int) ^ (k + 1) ≤ 1024 := by
        have : k = 0 ∨ k = 1 ∨ k = 2 ∨ k = 3 ∨ k = 4 ∨ k = 5 ∨ k = 6 ∨ k = 7 ∨ k = 8 ∨ k = 9 := by omega
        rcases this with rfl | rfl | rfl | rfl | rfl | rfl | rfl | rfl | rfl | rfl <;> decide
      have h3 : (2 : Int) ^ (k + 1) * W ≤ 1024 * 5000000000 := Int.mul_le_mul hp hW2 hW (by omega)
      omega
    have hfin0 := finM_fw h hW hW2 hn k (by omega)
    have hp0 : (2 : Int) ^ k * W ≤ 5000000000000 := by
      rw [show (2 : Int) ^ (k + 1) * W = 2 ^ k * W + 2 ^ k * W by rw [Int.pow_succ, Int.mul_assoc, Int.mul_comm 2 W, ← Int.mul_assoc]; omega] at hp
      omega
    have hsum : ∀ a b, fin (2 ^ k * W) a → fin (2 ^ k * W) b → a ≠ bot → b ≠ bot → ∀ y, a + b ≤ y → y ≠ bot := by
      intro a b ha hb na nb y hy
      rcases ha with ha | ha
      · exact absurd ha na
      rcases hb with hb | hb
      · exact absurd hb nb
      unfold bot; omega
    have hkk0 := hd k (by omega)
    have hkk1 := fw_diag (n := n) F k k
    have ih := ih (by omega)
    have hv : ∀ a b, fwF F (k + 1) a b = max (fwF F k a b) (tms (fwF F k a k) (fwF F k k b)) := fun a b => rfl
    generalize fwF F (k + 1) = S' at *
    generalize fwF F k = S at *
    have hkk : S k k = 0 := by omega
    have hkn : S k k ≠ bot := nonneg_ne (by omega)
    -- the new entries, seen from below and from above
    have hge : ∀ a b, S a b ≤ S' a b := fun a b => by rw [hv]; omega
    have hge2 : ∀ a b, S a k ≠ bot → S k b ≠ bot → S a k + S k b ≤ S' a b := fun a b x y => by rw [hv, tms_eq x y]; omega
    have hcase : ∀ a b, a < n → b < n → S' a b ≠ bot → (S a b ≠ bot ∧ S' a b = S a b) ∨ (S a k ≠ bot ∧ S k b ≠ bot ∧ S' a b = S a k + S k b) := by
      intro a b ha hb hne
      rw [hv] at hne ⊢
      by_cases hu : S a b ≤ tms (S a k) (S k b)
      · have e : max (S a b) (tms (S a k) (S k b)) = tms (S a k) (S k b) := by omega
        rw [e] at hne ⊢
        exact .inr (tms_ne hne)
      · have e : max (S a b) (tms (S a k) (S k b)) = S a b := by omega
        rw [e] at hne ⊢
        exact .inl ⟨hne, rfl⟩
    have hk1 : k < n := by omega
    have hmn : m < n := by omega
    have toK : ∀ a, a < n → S' a k ≠ bot → S a k ≠ bot ∧ S' a k = S a k := by
      intro a ha hne
      rcases hcase a k ha hk1 hne with x | ⟨x, y, z⟩
      · exact x
      · exact ⟨x, by omega⟩
    have ofK : ∀ b, b < n → S' k b ≠ bot → S k b ≠ bot ∧ S' k b = S k b := by
      intro b hb hne
      rcases hcase k b hk1 hb hne with x | ⟨x, y, z⟩
      · exact x
      · exact ⟨y, by omega⟩
    have fine : ∀ a b y, S a k ≠ bot → S k b ≠ bot → a < n → b < n → S a k + S k b ≤ y → y ≠ bot := fun a b y x z ha hb hy => hsum _ _ (hfin0 a k ha hk1) (hfin0 k b hk1 hb) x z y hy
    by_cases hmk : m = k
    · subst hmk
      obtain ⟨x1, e1⟩ := toK i hi h1
      obtain ⟨x2, e2⟩ := ofK j hj h2
      have hle := hge2 i j x1 x2
      exact ⟨fine i j _ x1 x2 hi hj hle, by omega⟩
    · have hmk' : m < k := by omega
      rcases hcase i m hi hmn h1 with ⟨x1, e1⟩ | ⟨x1, y1, e1⟩
      · rcases hcase m j hmn hj h2 with ⟨x2, e2⟩ | ⟨x2, y2, e2⟩
        · obtain ⟨x3, hle⟩ := ih m hmk' i j hi hj x1 x2
          have := hge i j
          exact ⟨ne_of_fin (hfin0 i j hi hj) x3 (by omega) this, by omega⟩
        · obtain ⟨x3, hle⟩ := ih m hmk' i k hi hk1 x1 x2
          have := hge2 i j x3 y2
          exact ⟨fine i j _ x3 y2 hi hj this, by omega⟩
      · rcases hcase m j hmn hj h2 with ⟨x2, e2⟩ | ⟨x2, y2, e2⟩
        · obtain ⟨x3, hle⟩ := ih m hmk' k j hk1 hj y1 x2
          have := hge2 i j x1 x3
          exact ⟨fine i j _ x1 x3 hi hj this, by omega⟩
        · obtain ⟨x3, hle⟩ := ih m hmk' k k hk1 hk1 y1 x2
          have := hge2 i j x1 y2
          exact ⟨fine i j _ x1 y2 hi hj this, by omega⟩
theorem fw_sol {n : Nat} {W : Int} {F : Nat → Nat → Int} (h : finM n W F) (hW : 0 ≤ W) (hW2 : W ≤ 5000000000) (hn : n ≤ 10) (hok : fwOk n F) : Sol n F (fwF F n) := by
  refine ⟨fun i _ => fw_diag (n := n) F n i, fun i m j hi hm hj h1 h2 => ?_⟩
  have hup := fw_up F i m n
  have hne : fwF F n i m ≠ bot := ne_of_fin (h i m hi hm) h1 (by omega) hup
  obtain ⟨x, y⟩ := fw_closed h hW hW2 hn hok.1 n (Nat.le_refl _) m hm i j hi hj hne h2
  exact ⟨x, by omega⟩
theorem fwOk_of_pot {n : Nat} {F : Nat → Nat → Int} {z : Nat → Int} (h : Pot n F z) : fwOk n F := by
  have key : ∀ k j, k < n → j ≤ n → fwF F j k k ≤ 0 := by
    intro k j hk hj
    obtain ⟨b, hb, hle⟩ := h.sub.fw j hj k k hk hk (nonneg_ne (fw_diag (n := n) F j k)) (z k) rfl
    injection hb with hb
    omega
  exact ⟨fun k hk => key k k hk (by omega), fun k hk => key k n hk (Nat.le_refl _)⟩

/-! ### repeated products: walks -/
def wt (F : Nat → Nat → Int) : List Nat → Int
  | a :: b :: l => F a b + wt F (b :: l)
  | _ => 0
def Vld (F : Nat → Nat → Int) (n : Nat) : List Nat → Prop
  | [] => False
  | [a] => a < n
  | a :: b :: l => a < n ∧ F a b ≠ bot ∧ Vld F n (b :: l)
theorem Vld.cons_tail {F : Nat → Nat → Int} {n a b : Nat} {l : List Nat} (h : Vld F n (a :: b :: l)) : Vld F n (b :: l) := h.2.2
theorem Vld.head {F : Nat → Nat → Int} {n a : Nat} {l : List Nat} (h : Vld F n (a :: l)) : a < n := by
  cases l with
  | nil => exact h
  | cons b l => exact h.1
theorem Vld.mem {F : Nat → Nat → Int} {n : Nat} : ∀ {l : List Nat}, Vld F n l → ∀ x ∈ l, x < n
  | [], h, _, _ => h.elim
  | [a], h, x, hx => by simp at hx; subst hx; exact h
  | a :: b :: l, h, x, hx => by
    rcases List.mem_cons.1 hx with rfl | hx
    · exact h.1
    · exact Vld.mem h.2.2 x hx
theorem Vld.right {F : Nat → Nat → Int} {n : Nat} : ∀ (p : List Nat) {v : Nat} {r : List Nat}, Vld F n (p ++ v :: r) → Vld F n (v :: r)
  | [], v, r, h => h
  | [a], v, r, h => h.2.2
  | a :: b :: p, v, r, h => Vld.right (b :: p) h.2.2
theorem Vld.glue {F : Nat → Nat → Int} {n : Nat} : ∀ (p : List Nat) {v : Nat} {q r : List Nat}, Vld F n (p ++ v :: q) → Vld F n (v :: r) → Vld F n (p ++ v :: r)
  | [], v, q, r, _, h => h
  | [a], v, q, r, h, h' => ⟨h.1, h.2.1, h'⟩
  | a :: b :: p, v, q, r, h, h' => ⟨h.1, h.2.1, Vld.glue (b :: p) h.2.2 h'⟩
theorem wt_split (F : Nat → Nat → Int) : ∀ (p : List Nat) (v : Nat) (r : List Nat), wt F (p ++ v :: r) = wt F (p ++ [v]) + wt F (v :: r)
  | [], v, r => by simp [wt]
  | [a], v, r => by simp [wt]
  | a :: b :: p, v, r => by
    have := wt_split F (b :: p) v r
    simp only [List.cons_append, wt] at this ⊢
    omega
theorem Pot.walk {n : Nat} {F : Nat → Nat → Int} {z : Nat → Int} (h : Pot n F z) : ∀ (l : List Nat) (a : Nat), Vld F n (a :: l) → wt F (a :: l) + z ((a :: l).getLast (by simp)) ≤ z a
  | [], a, _ => by simp [wt]
  | b :: l, a, hv => by
    have h1 := h.walk l b hv.2.2
    have h2 := h a b hv.1 hv.2.2.head hv.2.1
    simp only [wt, List.getLast_cons_cons]
    omega
theorem dup_split : ∀ {l : List Nat}, ¬ l.Nodup → ∃ p v q r, l = p ++ v :: (q ++ v :: r)
  | [], h => absurd List.nodup_nil h
  | a :: l, h => by
    by_cases ha : a ∈ l
    · obtain ⟨q, r, e⟩ := List.append_of_mem ha
      exact ⟨[], a, q, r, by rw [e]; rfl⟩
    · have : ¬ l.Nodup := fun hn => h (List.nodup_cons.2 ⟨ha, hn⟩)
      obtain ⟨p, v, q, r, e⟩ := dup_split this
      exact ⟨a :: p, v, q, r, by rw [e]; rfl⟩
theorem nodup_len' : ∀ (n : Nat) (l : List Nat), l.Nodup → (∀ x ∈ l, x < n) → l.length ≤ n := by
  intro n
  induction n with
  | zero => intro l hd h; cases l with | nil => simp | cons a l => exact absurd (h a (by simp)) (by omega)
  | succ n ih =>
    intro l hd h
    by_cases hm : n ∈ l
    · have h1 := ih (l.erase n) (hd.erase n) fun x hx => by
        have := h x (List.mem_of_mem_erase hx)
        have : x ≠ n := fun e => by subst e; exact absurd hx hd.not_mem_erase
        omega
      rw [List.length_erase_of_mem hm] at h1
      omega
    · have := ih l hd fun x hx => by
        have := h x hx
        have : x ≠ n := fun e => by subst e; exact hm hx
        omega
      omega
/-- A walk through more places than there are has a part that leads round, which a potential makes worth nothing. -/
theorem shorter {n : Nat} {F : Nat → Nat → Int} {z : Nat → Int} (h : Pot n F z) (a : Nat) (l : List Nat) (hv : Vld F n (a :: l)) (hl : n < (a :: l).length) :
    ∃ l', Vld F n (a :: l') ∧ (a :: l').getLast (by simp) = (a :: l).getLast (by simp) ∧ l'.length < l.length ∧ wt F (a :: l) ≤ wt F (a :: l') := by
  have hnd : ¬ (a :: l).Nodup := fun hd => by have := nodup_len' n _ hd hv.mem; omega
  obtain ⟨p, v, q, r, e⟩ := dup_split hnd
  have hv' : Vld F n (p ++ v :: (q ++ v :: r)) := e ▸ hv
  have h1 : Vld F n (v :: (q ++ v :: r)) := Vld.right p hv'
  have h2 : Vld F n (v :: r) := Vld.right (v :: q) (by simpa using h1)
  have h3 : Vld F n (p ++ v :: r) := Vld.glue p hv' h2
  have hc : Vld F n (v :: (q ++ [v])) := Vld.glue (v :: q) (q := r) (r := []) (by simpa using h1) h2.head
  have hc2 := h.walk (q ++ [v]) v hc
  have e1 : (v :: (q ++ [v])).getLast (by simp) = v := by rw [List.getLast_cons (show q ++ [v] ≠ [] by simp)]; simp
  rw [e1] at hc2
  have w1 := wt_split F p v (q ++ v :: r)
  have w2 := wt_split F (v :: q) v r
  have w3 := wt_split F p v r
  have hhead : (p ++ v :: r).head? = some a := by
    have : (a :: l).head? = (p ++ v :: (q ++ v :: r)).head? := by rw [e]
    simp only [List.head?_cons] at this
    rw [this]
    cases p <;> rfl
  obtain ⟨l', e2⟩ : ∃ l', p ++ v :: r = a :: l' := by
    cases hp : p ++ v :: r with
    | nil => simp at hp
    | cons b l' => rw [hp] at hhead; simp at hhead; exact ⟨l', by rw [hhead]⟩
  have hlen : (a :: l).length = p.length + 1 + (q.length + 1 + r.length) := by rw [e]; simp; omega
  have hlen2 : (a :: l').length = p.length + 1 + r.length := by rw [← e2]; simp; omega
  refine ⟨l', e2 ▸ h3, ?_, by simp at hlen hlen2; omega, ?_⟩
  · simp only [← e2, e]
    rw [List.getLast_append_of_ne_nil (by simp) (by simp), List.getLast_append_of_ne_nil (by simp) (by simp)]
    rw [List.getLast_cons (show q ++ v :: r ≠ [] by simp), List.getLast_append_of_ne_nil (by simp) (by simp)]
  · rw [← e2, e, w1, w3]
    have : wt F (v :: q ++ v :: r) = wt F (v :: (q ++ v :: r)) := rfl
    have e4 : wt F (v :: q ++ [v]) = wt F (v :: (q ++ [v])) := rfl
    omega
theorem it_walk {n : Nat} {F : Nat → Nat → Int} (j : Nat) (hj : j < n) : ∀ m i, i < n → itF n F m i j ≠ bot → ∃ l, Vld F n (i :: l) ∧ (i :: l).getLast (by simp) = j ∧ l.length ≤ m ∧ itF n F m i j = wt F (i :: l) := by
  have hu : ∀ m i, i < n → unitF i j ≠ bot → ∃ l, Vld F n (i :: l) ∧ (i :: l).getLast (by simp) = j ∧ l.length ≤ m ∧ unitF i j = wt F (i :: l) := by
    intro m i hi hne
    by_cases him : i = j
    · subst him
      exact ⟨[], hi, rfl, Nat.zero_le _, by simp [unitF, wt]⟩
    · exact absurd (by simp [unitF, him]) hne
  intro m
  induction m with
  | zero => intro i hi hne; exact hu 0 i hi hne
  | succ m ih =>
    intro i hi hne
    simp only [itF, maxF] at hne ⊢
    by_cases hle : unitF i j ≤ mulF n F (itF n F m) i j
    · have e : max (unitF i j) (mulF n F (itF n F m) i j) = mulF n F (itF n F m) i j := by omega
      rw [e] at hne ⊢
      rcases sumT_mem n (fun k => tms (F i k) (itF n F m k j)) with e2 | ⟨k, hk, e2⟩
      · exact absurd e2 hne
      · have e3 : mulF n F (itF n F m) i j = tms (F i k) (itF n F m k j) := e2
        rw [e3] at hne ⊢
        obtain ⟨h2, h3, e4⟩ := tms_ne hne
        obtain ⟨l, hl1, hl2, hl3, hl4⟩ := ih k hk h3
        exact ⟨k :: l, ⟨hi, h2, hl1⟩, by simpa using hl2, by simp; omega, by rw [e4, hl4]; rfl⟩
    · have e : max (unitF i j) (mulF n F (itF n F m) i j) = unitF i j := by omega
      rw [e] at hne ⊢
      exact hu _ i hi hne
theorem walk_it {n : Nat} {W : Int} {F : Nat → Nat → Int} (h : finM n W F) (hW : 0 ≤ W) (hW2 : W ≤ 5000000000) : ∀ (m : Nat) (l : List Nat) (i : Nat), m ≤ 11 → Vld F n (i :: l) → l.length ≤ m → itF n F m i ((i :: l).getLast (by simp)) ≠ bot ∧ wt F (i :: l) ≤ itF n F m i ((i :: l).getLast (by simp)) := by
  intro m
  have hu : ∀ m i, i < n → itF n F m i i ≠ bot ∧ 0 ≤ itF n F m i i := by
    intro m i hi
    have h0 : 0 ≤ itF n F m i i := by
      cases m with
      | zero => simp [itF, unitF]
      | succ m => have : unitF i i = 0 := if_pos rfl
                  simp only [itF, maxF]; omega
    exact ⟨nonneg_ne h0, h0⟩
  induction m with
  | zero =>
    intro l i hm hv hl
    obtain rfl : l = [] := List.eq_nil_of_length_eq_zero (by omega)
    exact hu 0 i hv
  | succ m ih =>
    intro l i hm hv hl
    cases l with
    | nil => exact hu _ i hv
    | cons k l =>
      obtain ⟨h1, h2⟩ := ih l k (by omega) hv.2.2 (by simpa using hl)
      have hk := hv.2.2.head
      have hj : (k :: l).getLast (by simp) < n := hv.2.2.mem _ (List.getLast_mem _)
      rw [List.getLast_cons_cons]
      generalize (k :: l).getLast (by simp) = j at *
      have h3 := sumT_ge n (fun k => tms (F i k) (itF n F m k j)) k hk
      simp only [tms_eq hv.2.1 h1] at h3
      have h4 : F i k + itF n F m k j ≤ itF n F (m + 1) i j := by
        simp only [itF, maxF, mulF]
        omega
      have hf1 := h i k hv.1 hk
      have hf2 := finM_it h hW hW2 m (by omega) k j hk hj
      have h5 : (m : Int) * W ≤ 10 * 5000000000 := Int.mul_le_mul (by omega) hW2 hW (by omega)
      refine ⟨?_, by simp only [wt]; omega⟩
      rcases hf1 with hf1 | hf1
      · exact absurd hf1 hv.2.1
      rcases hf2 with hf2 | hf2
      · exact absurd hf2 h1
      unfold bot; omega
theorem it_ge_bot {n : Nat} {F : Nat → Nat → Int} (m i j : Nat) : bot ≤ itF n F m i j := by
  have hu : bot ≤ unitF i j := by unfold unitF; split <;> simp [bot]
  cases m with
  | zero => exact hu
  | succ m => simp only [itF, maxF]; omega
theorem itOk_of_pot {n : Nat} {W : Int} {F : Nat → Nat → Int} {z : Nat → Int} (hF : finM n W F) (hW : 0 ≤ W) (hW2 : W ≤ 5000000000) (hn : n ≤ 10) (h : Pot n F z) : itOk n F := by
  intro i j hi hj
  refine Int.le_antisymm ?_ ?_
  · by_cases e : itF n F (n + 1) i j = bot
    · rw [e]; exact it_ge_bot _ _ _
    · obtain ⟨l, h1, h2, h3, h4⟩ := it_walk j hj (n + 1) i hi e
      by_cases hl : l.length ≤ n
      · have := (walk_it hF hW hW2 n l i (by omega) h1 hl).2
        rw [h2] at this
        omega
      · obtain ⟨l', g1, g2, g3, g4⟩ := shorter h i l h1 (by simp; omega)
        have := (walk_it hF hW hW2 n l' i (by omega) g1 (by omega)).2
        rw [g2, h2] at this
        omega
  · by_cases e : itF n F n i j = bot
    · rw [e]; exact it_ge_bot _ _ _
    · obtain ⟨l, h1, h2, h3, h4⟩ := it_walk j hj n i hi e
      have := (walk_it hF hW hW2 (n + 1) l i (by omega) h1 (by omega)).2
      rw [h2] at this
      omega
theorem it_sol {n : Nat} {W : Int} {F : Nat → Nat → Int} (hF : finM n W F) (hW : 0 ≤ W) (hW2 : W ≤ 5000000000) (hn : n ≤ 10) (h : itOk n F) : Sol n F (itF n F n) := by
  refine ⟨fun i hi => ?_, fun i m j hi hm hj h1 h2 => ?_⟩
  · rw [← h i i hi hi]
    have : unitF i i = 0 := if_pos rfl
    simp only [itF, maxF]; omega
  · have h3 := sumT_ge n (fun k => tms (F i k) (itF n F n k j)) m hm
    simp only [tms_eq h1 h2] at h3
    have h4 : F i m + itF n F n m j ≤ itF n F (n + 1) i j := by
      show _ ≤ max (unitF i j) (mulF n F (itF n F n) i j)
      simp only [mulF]
      omega
    rw [h i j hi hj] at h4
    have hf1 := hF i m hi hm
    have hf2 := finM_it hF hW hW2 n (by omega) m j hm hj
    have h5 : (n : Int) * W ≤ 10 * 5000000000 := Int.mul_le_mul (by omega) hW2 hW (by omega)
    refine ⟨?_, h4⟩
    rcases hf1 with hf1 | hf1
    · exact absurd hf1 h1
    rcases hf2 with hf2 | hf2
    · exact absurd hf2 h2
    unfold bot; omega
theorem star_ok {n : Nat} {W : Int} {F : Nat → Nat → Int} (hF : finM n W F) (hW : 0 ≤ W) (hW2 : W ≤ 5000000000) (hn : n ≤ 10) : fwOk n F ↔ itOk n F :=
  ⟨fun h => itOk_of_pot hF hW hW2 hn (fw_sol hF hW hW2 hn h).pot, fun h => fwOk_of_pot (it_sol hF hW hW2 hn h).pot⟩
theorem sol_le {n : Nat} {F G S : Nat → Nat → Int} (hS : Sol n F S) {i j : Nat} (hj : j < n) (hG : G i j ≠ bot → ∃ b, colO S j i = some b ∧ G i j ≤ b) (hb : bot ≤ S i j) : G i j ≤ S i j ∨ G i j = bot := by
  by_cases e : G i j = bot
  · exact .inr e
  · obtain ⟨b, hb, hle⟩ := hG e
    by_cases e2 : S i j = bot
    · simp [colO, e2] at hb
    · rw [colO_some e2] at hb
      injection hb with hb
      exact .inl (by omega)
theorem fw_ge_bot {n : Nat} {F : Nat → Nat → Int} (k i j : Nat) : bot ≤ fwF F k i j := by
  induction k with
  | zero => have hu : bot ≤ unitF i j := by unfold unitF; split <;> simp [bot]
            simp only [fwF, maxF]; omega
  | succ k ih => simp only [fwF, elimF]; omega
theorem star_eq {n : Nat} {W : Int} {F : Nat → Nat → Int} (hF : finM n W F) (hW : 0 ≤ W) (hW2 : W ≤ 5000000000) (hn : n ≤ 10) (h : itOk n F) : ∀ i j, i < n → j < n → fwF F n i j = itF n F n i j := by
  intro i j hi hj
  have s1 := fw_sol hF hW hW2 hn ((star_ok hF hW hW2 hn).2 h)
  have s2 := it_sol hF hW hW2 hn h
  have b1 := fw_ge_bot (n := n) (F := F) n i j
  have b2 := it_ge_bot (n := n) (F := F) n i j
  have d1 := s1.1 j hj
  have d2 := s2.1 j hj
  have k1 := sol_le (G := fwF F n) s2 (i := i) hj (fun e => by
    obtain ⟨b, hb, hle⟩ := (s2.sub j hj).fw n (Nat.le_refl _) i j hi hj e _ (colO_some (nonneg_ne d2))
    exact ⟨b, hb, by omega⟩) b2
  have k2 := sol_le (G := itF n F n) s1 (i := i) hj (fun e => it_le (s1.sub j hj) j hj _ (colO_some (nonneg_ne d1)) d1 n i hi e) b1
  omega
/-- The least solution of one column is the star's. -/
theorem star_col {n : Nat} {W : Int} {F : Nat → Nat → Int} (hF : finM n W F) (hW : 0 ≤ W) (hW2 : W ≤ 5000000000) (hn : n ≤ 10) (h : itOk n F) {j : Nat} (hj : j < n) {x : Nat → Option Int} (hx : SubO n F x) {a : Int} (ha : x j = some a) (h0 : 0 ≤ a)
    (hle : ∀ i, i < n → ∀ b, x i = some b → ∀ y : Nat → Option Int, SubO n F y → (∃ c, y j = some c ∧ 0 ≤ c) → ∃ c, y i = some c ∧ b ≤ c) (i : Nat) (hi : i < n) : x i = colO (itF n F n) j i := by
  have s2 := it_sol hF hW hW2 hn h
  have d2 := s2.1 j hj
  have b2 := it_ge_bot (n := n) (F := F) n i j
  cases hxi : x i with
  | none =>
    by_cases e : itF n F n i j = bot
    · simp [colO, e]
    · obtain ⟨b, hb, _⟩ := it_le hx j hj a ha h0 n i hi e
      rw [hxi] at hb; cases hb
  | some b =>
    obtain ⟨c, hc, hbc⟩ := hle i hi b hxi _ (s2.sub j hj) ⟨_, colO_some (nonneg_ne d2), d2⟩
    have e : itF n F n i j ≠ bot := by intro e; simp [colO, e] at hc
    obtain ⟨b', hb', hle'⟩ := it_le hx j hj a ha h0 n i hi e
    rw [hxi] at hb'
    injection hb' with hb'
    rw [colO_some e] at hc ⊢
    injection hc with hc
    rw [show b = itF n F n i j by omega]
end Go.Proofs.Ytcoomogabicfnaa
