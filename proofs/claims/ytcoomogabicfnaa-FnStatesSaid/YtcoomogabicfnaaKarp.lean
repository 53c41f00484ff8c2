/-
  The greatest mean of a cycle by Karp's table, and the state matrix: its cycle mean is the graph's cycle time: plain Lean, no program in sight.
-/
import Derived.Test.YtcoomogabicfnaaState
import Derived.Test.YtcoomogabicfnaaCirQ
namespace Go.Proofs.Ytcoomogabicfnaa
open Go.RowKit
set_option linter.unusedVariables false
set_option linter.unusedSimpArgs false
/-! ### Karp's table -/
/-- A matrix times a vector. -/
def tvF (n : Nat) (F : Nat → Nat → Int) (z : Nat → Int) : Nat → Int := fun i => sumT n (fun k => tms (F i k) (z k))
/-- The greatest weights of walks of k steps. -/
def karT (n : Nat) (F : Nat → Nat → Int) : Nat → Nat → Int
  | 0 => fun _ => 0
  | k + 1 => tvF n F (karT n F k)
theorem karT_ge_bot (n : Nat) (F : Nat → Nat → Int) : ∀ k v, bot ≤ karT n F k v
  | 0, v => by show bot ≤ 0; unfold bot; omega
  | k + 1, v => sumT_ge_bot _ _
theorem succ_mulI (k : Nat) (B : Int) : ((k + 1 : Nat) : Int) * B = B + k * B := by rw [Int.natCast_add, Int.add_mul]; simp; omega
theorem karT_fin {n : Nat} {B : Int} {F : Nat → Nat → Int} (h : finM n B F) (hB : 0 ≤ B) : ∀ k : Nat, ∀ v, v < n → fin (k * B) (karT n F k v) := by
  intro k
  induction k with
  | zero => intro v _; exact .inr ⟨by simp [karT], by simp [karT]⟩
  | succ k ih =>
    intro v hv
    have h2 : (0 : Int) ≤ k * B := Int.mul_nonneg (by omega) hB
    rw [succ_mulI]
    exact fin_sumT n _ fun j hj => fin_tms (h v j hv hj) (ih j hj) hB h2
theorem karT_step {n : Nat} {B : Int} {F : Nat → Nat → Int} (h : finM n B F) (hB : 0 ≤ B) {k v u : Nat} (hk : ((k + 1 : Nat) : Int) * B ≤ 10000000000000) (hv : v < n) (hu : u < n) (h1 : F v u ≠ bot) (h2 : karT n F k u ≠ bot) :
    karT n F (k + 1) v ≠ bot ∧ F v u + karT n F k u ≤ karT n F (k + 1) v := by
  have h3 := sumT_ge n (fun j => tms (F v j) (karT n F k j)) u hu
  simp only [tms_eq h1 h2] at h3
  have h4 : F v u + karT n F k u ≤ karT n F (k + 1) v := h3
  refine ⟨?_, h4⟩
  rw [succ_mulI] at hk
  have h5 : (0 : Int) ≤ k * B := Int.mul_nonneg (by omega) hB
  rcases h v u hv hu with e | e
  · exact absurd e h1
  rcases karT_fin h hB k u hu with e2 | e2
  · exact absurd e2 h2
  unfold bot
  omega
theorem kar_walk {n : Nat} {F : Nat → Nat → Int} : ∀ (k v : Nat), v < n → karT n F k v ≠ bot → ∃ l, Vld F n (v :: l) ∧ l.length = k ∧ karT n F k v = wt F (v :: l)
  | 0, v, hv, _ => ⟨[], hv, rfl, rfl⟩
  | k + 1, v, hv, h => by
    rcases sumT_mem n (fun j => tms (F v j) (karT n F k j)) with e | ⟨j, hj, e⟩
    · exact absurd e h
    · have e' : karT n F (k + 1) v = tms (F v j) (karT n F k j) := e
      rw [e'] at h
      obtain ⟨h1, h2, h3⟩ := tms_ne h
      obtain ⟨l, hl, hlen, hw⟩ := kar_walk k j hj h2
      exact ⟨j :: l, ⟨hv, h1, hl⟩, by simp [hlen], by rw [e', h3, hw]; rfl⟩
theorem walk_kar {n : Nat} {B : Int} {F : Nat → Nat → Int} (h : finM n B F) (hB : 0 ≤ B) : ∀ (l : List Nat) (v : Nat), Vld F n (v :: l) → (l.length : Int) * B ≤ 10000000000000 → karT n F l.length v ≠ bot ∧ wt F (v :: l) ≤ karT n F l.length v
  | [], v, _, _ => ⟨by show (0 : Int) ≠ bot; unfold bot; omega, Int.le_refl _⟩
  | u :: l, v, hv, hk => by
    have hk' : (l.length : Int) * B ≤ 10000000000000 := by
      rw [List.length_cons, succ_mulI] at hk
      omega
    obtain ⟨h1, h2⟩ := walk_kar h hB l u hv.2.2 hk'
    obtain ⟨h3, h4⟩ := karT_step h hB hk hv.1 hv.2.2.head hv.2.1 h1
    exact ⟨h3, by show F v u + wt F (u :: l) ≤ _; simp only [List.length_cons]; omega⟩
/-- A potential for the ratio a / b. -/
def PotS (n : Nat) (F : Nat → Nat → Int) (a b : Int) (z : Nat → Int) : Prop := ∀ i m, i < n → m < n → F i m ≠ bot → b * F i m - a + z m ≤ z i
theorem PotS.walk {n : Nat} {F : Nat → Nat → Int} {a b : Int} {z : Nat → Int} (h : PotS n F a b z) : ∀ (l : List Nat) (x : Nat), Vld F n (x :: l) → b * wt F (x :: l) - l.length * a + z ((x :: l).getLast (by simp)) ≤ z x
  | [], x, _ => by simp [wt]
  | y :: l, x, hv => by
    have h1 := h.walk l y hv.2.2
    have h2 := h x y hv.1 hv.2.2.head hv.2.1
    simp only [wt, List.getLast_cons_cons, List.length_cons]
    rw [succ_mulI, Int.mul_add]
    omega
theorem shorterS {n : Nat} {F : Nat → Nat → Int} {a b : Int} {z : Nat → Int} (h : PotS n F a b z) (x : Nat) (l : List Nat) (hv : Vld F n (x :: l)) (hl : n < (x :: l).length) :
    ∃ l', Vld F n (x :: l') ∧ l'.length < l.length ∧ b * wt F (x :: l) - l.length * a ≤ b * wt F (x :: l') - l'.length * a := by
  have hnd : ¬ (x :: l).Nodup := fun hd => by have := nodup_len' n _ hd hv.mem; omega
  obtain ⟨p, v, q, r, e⟩ := dup_split hnd
  have hv' : Vld F n (p ++ v :: (q ++ v :: r)) := e ▸ hv
  have h1 : Vld F n (v :: (q ++ v :: r)) := Vld.right p hv'
  have h2 : Vld F n (v :: r) := Vld.right (v :: q) (by simpa using h1)
  have h3 : Vld F n (p ++ v :: r) := Vld.glue p hv' h2
  have hc : Vld F n (v :: (q ++ [v])) := Vld.glue (v :: q) (q := r) (r := []) (by simpa using h1) h2.head
  have hc2 := h.walk (q ++ [v]) v hc
  have e1 : (v :: (q ++ [v])).getLast (by simp) = v := by rw [List.getLast_cons (show q ++ [v] ≠ [] by simp)]; simp
  rw [e1] at hc2
  have w1 := wt_split F p v (q ++ v :: r)
  have w2 := wt_split F (v :: q) v r
  have w3 := wt_split F p v r
  have hhead : (p ++ v :: r).head? = some x := by
    have : (x :: l).head? = (p ++ v :: (q ++ v :: r)).head? := by rw [e]
    simp only [List.head?_cons] at this
    rw [this]
    cases p <;> rfl
  obtain ⟨l', e2⟩ : ∃ l', p ++ v :: r = x :: l' := by
    cases hp : p ++ v :: r with
    | nil => simp at hp
    | cons b l' => rw [hp] at hhead; simp at hhead; exact ⟨l', by rw [hhead]⟩
  have hlen : (x :: l).length = p.length + 1 + (q.length + 1 + r.length) := by rw [e]; simp; omega
  have hlen2 : (x :: l').length = p.length + 1 + r.length := by rw [← e2]; simp; omega
  have hlen3 : l.length = l'.length + (q ++ [v]).length := by simp at hlen hlen2 ⊢; omega
  refine ⟨l', e2 ▸ h3, by simp at hlen hlen2; omega, ?_⟩
  rw [← e2, e, w1, w3]
  have e3 : wt F (v :: q ++ v :: r) = wt F (v :: (q ++ v :: r)) := rfl
  have e4 : wt F (v :: q ++ [v]) = wt F (v :: (q ++ [v])) := rfl
  rw [← e3, w2, e4, hlen3, Int.natCast_add, Int.add_mul, Int.mul_add, Int.mul_add, Int.mul_add]
  omega
/-- A walk is not better than one with fewer steps than there are nodes. -/
theorem dom_walk {n : Nat} {F : Nat → Nat → Int} {a b : Int} {z : Nat → Int} (h : PotS n F a b z) : ∀ (m : Nat) (l : List Nat) (v : Nat), l.length ≤ m → Vld F n (v :: l) →
    ∃ l', Vld F n (v :: l') ∧ l'.length < n ∧ b * wt F (v :: l) - l.length * a ≤ b * wt F (v :: l') - l'.length * a := by
  intro m
  induction m with
  | zero =>
    intro l v hm hv
    have hn := hv.head
    exact ⟨l, hv, by omega, Int.le_refl _⟩
  | succ m ih =>
    intro l v hm hv
    by_cases hl : l.length < n
    · exact ⟨l, hv, hl, Int.le_refl _⟩
    · obtain ⟨l1, h1, h2, h3⟩ := shorterS h v l hv (by simp; omega)
      obtain ⟨l2, h4, h5, h6⟩ := ih l1 v (by omega) h1
      exact ⟨l2, h4, h5, Int.le_trans h3 h6⟩
theorem kar_dom {n : Nat} {B : Int} {F : Nat → Nat → Int} {a b : Int} {z : Nat → Int} (hF : finM n B F) (hB : 0 ≤ B) (hn : (n : Int) * B ≤ 10000000000000) (h : PotS n F a b z) (hb : 0 ≤ b) {k v : Nat} (hv : v < n) (hk : karT n F k v ≠ bot) :
    ∃ k', k' < n ∧ karT n F k' v ≠ bot ∧ b * karT n F k v - k * a ≤ b * karT n F k' v - k' * a := by
  obtain ⟨l, h1, h2, h3⟩ := kar_walk k v hv hk
  obtain ⟨l', h4, h5, h6⟩ := dom_walk h k l v (by omega) h1
  have h7 : (l'.length : Int) * B ≤ 10000000000000 := Int.le_trans (Int.mul_le_mul_of_nonneg_right (by omega) hB) hn
  obtain ⟨h8, h9⟩ := walk_kar hF hB l' v h4 h7
  refine ⟨l'.length, h5, h8, ?_⟩
  have h10 := Int.mul_le_mul_of_nonneg_left h9 hb
  rw [h2, ← h3] at h6
  omega
/-! ### the state matrix -/
theorem delF_ge (m : Int) (gp : List Place) : ∀ k, k ≤ gp.length → ∀ j (hj : j < gp.length), j < k → gp[j].tokens = m → gp[j].delay ≤ delF m (gp.take k) gp[j].dst.toNat gp[j].src.toNat := by
  intro k
  induction k with
  | zero => intro _ j _ hj; omega
  | succ k ih =>
    intro hk j hj hjk ht
    rw [delF_succ m gp k (by omega)]
    by_cases e : j = k
    · subst e
      rw [if_pos ht]
      unfold updF
      rw [if_pos ⟨rfl, rfl⟩]
      omega
    · have h1 := ih (by omega) j hj (by omega) ht
      split
      · unfold updF
        split
        · rename_i h2
          rw [← h2.1, ← h2.2]
          omega
        · exact h1
      · exact h1
theorem delF_place {gp : List Place} {p : Place} (hp : p ∈ gp) : p.delay ≤ delF p.tokens gp p.dst.toNat p.src.toNat := by
  obtain ⟨j, hj, rfl⟩ := List.mem_iff_getElem.1 hp
  have h := delF_ge gp[j].tokens gp gp.length (Nat.le_refl _) j hj hj rfl
  rwa [List.take_length] at h
theorem delF_of {m : Int} {gp : List Place} {i j : Nat} (h : delF m gp i j ≠ bot) : ∃ p ∈ gp, p.dst.toNat = i ∧ p.src.toNat = j ∧ p.tokens = m ∧ delF m gp i j = p.delay := by
  have h1 := delF_from m gp gp.length (Nat.le_refl _) i j
  rw [List.take_length] at h1
  exact h1.resolve_left h
/-- A live graph whose state matrix is small. -/
structure StG (e V : Nat) (gp : List Place) : Prop where
  ok : okGraph (e : Nat) gp = true
  live : ∃ o, orderF e gp = some o
  pos : 1 ≤ e
  vpos : 1 ≤ V
  tok : ∀ p ∈ gp, p.tokens ≤ V
  small : V * e ≤ 10
section
variable {e V : Nat} {gp : List Place}
theorem StG.few (G : StG e V gp) : e ≤ 10 := Nat.le_trans (Nat.le_mul_of_pos_left e G.vpos) G.small
theorem StG.place (G : StG e V gp) {p : Place} (hp : p ∈ gp) : p.src.toNat < e ∧ p.dst.toNat < e ∧ 0 ≤ p.delay ∧ 0 ≤ p.tokens ∧ p.tokens ≤ 5 ∧ p.delay ≤ 1000 := by
  have := okGraph_place G.ok hp
  omega
theorem StG.sol (G : StG e V gp) : Sol e (delF 0 gp) (itF e (delF 0 gp) e) := by
  obtain ⟨o, ho⟩ := G.live
  exact it_sol (delF_fin G.ok 0 e) (by omega) (by omega) G.few (itOk_of_pot (delF_fin G.ok 0 e) (by omega) (by omega) G.few (live_pot G.ok ho))
theorem StG.closFin (G : StG e V gp) (m : Int) : finM e 11000 (closK e gp m) := by
  intro i j hi hj
  have hf := G.few
  have h1 := finM_it (delF_fin G.ok 0 e) (by omega) (by omega) e (by omega)
  refine fin_sumT e _ fun k hk => (fin_tms ((h1 i k hi hk).mono (show (e : Int) * 1000 ≤ 10000 by omega)) (delF_fin G.ok m e k j hk hj) (by omega) (by omega)).mono (by omega)
theorem StG.closOne (G : StG e V gp) {p : Place} (hp : p ∈ gp) : closK e gp p.tokens p.dst.toNat p.src.toNat ≠ bot ∧ p.delay ≤ closK e gp p.tokens p.dst.toNat p.src.toNat := by
  obtain ⟨hs, hd, h0, _⟩ := G.place hp
  have h1 := delF_place hp
  have h2 := G.sol.1 _ hd
  have h3 := sumT_ge e (fun k => tms (itF e (delF 0 gp) e p.dst.toNat k) (delF p.tokens gp k p.src.toNat)) _ hd
  simp only [tms_eq (nonneg_ne h2) (nonneg_ne (show 0 ≤ delF p.tokens gp p.dst.toNat p.src.toNat by omega))] at h3
  have h4 : itF e (delF 0 gp) e p.dst.toNat p.dst.toNat + delF p.tokens gp p.dst.toNat p.src.toNat ≤ closK e gp p.tokens p.dst.toNat p.src.toNat := h3
  exact ⟨nonneg_ne (by omega), by omega⟩
theorem StG.closTwo (G : StG e V gp) {p : Place} (hp : p ∈ gp) (h0 : p.tokens = 0) {m : Int} {q : Nat} (hq : q < e) (h : closK e gp m p.src.toNat q ≠ bot) :
    closK e gp m p.dst.toNat q ≠ bot ∧ p.delay + closK e gp m p.src.toNat q ≤ closK e gp m p.dst.toNat q := by
  obtain ⟨hs, hd, hd0, _⟩ := G.place hp
  have hF := delF_place hp
  rw [h0] at hF
  rcases sumT_mem e (fun k => tms (itF e (delF 0 gp) e p.src.toNat k) (delF m gp k q)) with h1 | ⟨k, hk, h1⟩
  · exact absurd h1 h
  · have h2 : closK e gp m p.src.toNat q = tms (itF e (delF 0 gp) e p.src.toNat k) (delF m gp k q) := h1
    rw [h2] at h ⊢
    obtain ⟨h3, h4, h5⟩ := tms_ne h
    obtain ⟨h6, h7⟩ := G.sol.2 _ _ k hd hs hk (nonneg_ne (show 0 ≤ delF 0 gp p.dst.toNat p.src.toNat by omega)) h3
    have h8 := sumT_ge e (fun k => tms (itF e (delF 0 gp) e p.dst.toNat k) (delF m gp k q)) k hk
    simp only [tms_eq h6 h4] at h8
    have h9 : itF e (delF 0 gp) e p.dst.toNat k + delF m gp k q ≤ closK e gp m p.dst.toNat q := h8
    have h10 : p.delay + tms (itF e (delF 0 gp) e p.src.toNat k) (delF m gp k q) ≤ closK e gp m p.dst.toNat q := by omega
    refine ⟨?_, h10⟩
    have h11 := G.closFin m _ q hs hq
    rw [h2] at h11
    rcases h11 with h11 | h11
    · exact absurd h11 h
    · unfold bot
      omega
/-- A potential of the graph. -/
def PotG (gp : List Place) (a b : Int) (x : Nat → Int) : Prop := ∀ p ∈ gp, x p.src.toNat + wgt a b p ≤ x p.dst.toNat
theorem StG.itPot (G : StG e V gp) {a b : Int} {x : Nat → Int} (hx : PotG gp a b x) {i k : Nat} (hi : i < e) (hk : k < e) (h : itF e (delF 0 gp) e i k ≠ bot) : b * itF e (delF 0 gp) e i k + x k ≤ x i := by
  have h0 : PotS e (delF 0 gp) 0 b x := by
    intro i m hi hm hne
    obtain ⟨p, hp, e1, e2, e3, e4⟩ := delF_of hne
    have h1 := hx p hp
    unfold wgt at h1
    rw [e3, Int.mul_zero] at h1
    rw [e4, ← e1, ← e2]
    omega
  obtain ⟨l, h1, h2, h3, h4⟩ := it_walk k hk e i hi h
  have h5 := h0.walk l i h1
  rw [h2, ← h4] at h5
  simpa using h5
theorem StG.closPot (G : StG e V gp) {a b : Int} {x : Nat → Int} (hx : PotG gp a b x) {m : Int} {i q : Nat} (hi : i < e) (h : closK e gp m i q ≠ bot) : b * closK e gp m i q - m * a + x q ≤ x i := by
  rcases sumT_mem e (fun k => tms (itF e (delF 0 gp) e i k) (delF m gp k q)) with h1 | ⟨k, hk, h1⟩
  · exact absurd h1 h
  · have h2 : closK e gp m i q = tms (itF e (delF 0 gp) e i k) (delF m gp k q) := h1
    rw [h2] at h ⊢
    obtain ⟨h3, h4, h5⟩ := tms_ne h
    obtain ⟨p, hp, e1, e2, e3, e4⟩ := delF_of h4
    have h6 := G.itPot hx hi hk h3
    have h7 := hx p hp
    unfold wgt at h7
    rw [h5, Int.mul_add, e4]
    rw [e1, e2, e3, Int.mul_comm a m] at h7
    omega
theorem stK_top {r q : Nat} (h : r < e) : stK e gp r q = closK e gp (((q / e : Nat) : Int) + 1) r (q % e) := if_pos h
theorem stK_low {r q : Nat} (h : e ≤ r) : stK e gp r q = if r - e = q then 0 else bot := if_neg (by omega)
theorem StG.fin (G : StG e V gp) : finM (V * e) 11000 (stK e gp) := by
  intro r q hr hq
  have hm := Nat.mod_lt q G.pos
  by_cases h : r < e
  · rw [stK_top h]; exact G.closFin _ r _ h hm
  · rw [stK_low (by omega)]
    split
    · exact .inr ⟨by omega, by omega⟩
    · exact .inl rfl
theorem StG.pot (G : StG e V gp) {a b : Int} {x : Nat → Int} (hx : PotG gp a b x) : PotS (V * e) (stK e gp) a b (fun r => x (r % e) - ((r / e : Nat) : Int) * a) := by
  intro r q hr hq hne
  by_cases h : r < e
  · rw [stK_top h] at hne ⊢
    have h1 := G.closPot hx h hne
    rw [Int.add_mul, Int.one_mul] at h1
    show b * closK e gp (((q / e : Nat) : Int) + 1) r (q % e) - a + (x (q % e) - ((q / e : Nat) : Int) * a) ≤ x (r % e) - ((r / e : Nat) : Int) * a
    rw [Nat.mod_eq_of_lt h, Nat.div_eq_of_lt h]
    have e0 : ((0 : Nat) : Int) * a = 0 := by simp
    omega
  · rw [stK_low (by omega)] at hne ⊢
    by_cases hq : r - e = q
    · rw [if_pos hq]
      obtain rfl : r = q + e := by omega
      have e1 : (q + e) % e = q % e := Nat.add_mod_right q e
      have e2 : (q + e) / e = q / e + 1 := Nat.add_div_right q G.pos
      show b * 0 - a + (x (q % e) - ((q / e : Nat) : Int) * a) ≤ x ((q + e) % e) - (((q + e) / e : Nat) : Int) * a
      rw [e1, e2, succ_mulI, Int.mul_zero]
      omega
    · rw [if_neg hq] at hne
      exact absurd rfl hne
/-- The time that a walk tells: 0 up to the start. -/
def yv (e V : Nat) (gp : List Place) (u : Int) (i : Nat) : Int := if u ≤ 0 then 0 else karT (V * e) (stK e gp) u.toNat i
theorem sumT_one (n : Nat) (f : Nat → Int) (q : Nat) (hq : q < n) (h : ∀ j, j < n → j ≠ q → f j = bot) (hb : bot ≤ f q) : sumT n f = f q := by
  have h1 := sumT_ge n f q hq
  rcases sumT_mem n f with h2 | ⟨k, hk, h2⟩
  · omega
  · by_cases e : k = q
    · rw [h2, e]
    · have := h k hk e; omega
theorem tmsZ (x : Int) : tms 0 x = x := by
  unfold tms
  by_cases h : x = bot
  · rw [if_pos (.inr h), h]
  · rw [if_neg (fun h2 => h2.elim (fun h1 => by unfold bot at h1; omega) h)]
    omega
theorem blk_div {c i : Nat} (hi : i < e) : (c * e + i) / e = c ∧ (c * e + i) % e = i := by
  have hp : 0 < e := by omega
  constructor
  · rw [Nat.mul_comm, Nat.mul_add_div hp, Nat.div_eq_of_lt hi, Nat.add_zero]
  · rw [Nat.mul_comm, Nat.mul_add_mod, Nat.mod_eq_of_lt hi]
theorem blk_lt {c i : Nat} (hc : c < V) (hi : i < e) : c * e + i < V * e := by
  have := Nat.mul_le_mul_right e (show c + 1 ≤ V by omega)
  rw [Nat.add_mul] at this
  omega
theorem kar_shift : ∀ (k c i : Nat), c < V → i < e → karT (V * e) (stK e gp) k (c * e + i) = yv e V gp ((k : Int) - c) i := by
  intro k
  induction k with
  | zero => intro c i _ _; unfold yv; rw [if_pos (by omega)]; rfl
  | succ k ih =>
    intro c i hc hi
    cases c with
    | zero =>
      unfold yv
      rw [if_neg (by omega), show (((k + 1 : Nat) : Int) - ((0 : Nat) : Int)).toNat = k + 1 by omega, Nat.zero_mul, Nat.zero_add]
    | succ c =>
      have hb := blk_lt (V := V) (c := c) (by omega) hi
      have hr : (c + 1) * e + i - e = c * e + i := by rw [Nat.add_mul]; omega
      have he : e ≤ (c + 1) * e + i := by rw [Nat.add_mul]; omega
      have h1 : karT (V * e) (stK e gp) (k + 1) ((c + 1) * e + i) = sumT (V * e) (fun q => tms (stK e gp ((c + 1) * e + i) q) (karT (V * e) (stK e gp) k q)) := rfl
      rw [h1, sumT_one _ _ (c * e + i) hb (fun j hj hne => by rw [stK_low he, hr, if_neg (fun h => hne h.symm)]; simp [tms]) (by rw [stK_low he, hr, if_pos rfl, tmsZ]; exact karT_ge_bot _ _ _ _)]
      rw [stK_low he, hr, if_pos rfl, tmsZ, ih c i (by omega) hi]
      rw [show ((k + 1 : Nat) : Int) - ((c + 1 : Nat) : Int) = (k : Int) - c by omega]
theorem StG.step (G : StG e V gp) {p : Place} (hp : p ∈ gp) {u : Int} (hu : 1 ≤ u + p.tokens) (hb : u + p.tokens ≤ 1000) (h : yv e V gp u p.src.toNat ≠ bot) :
    yv e V gp (u + p.tokens) p.dst.toNat ≠ bot ∧ yv e V gp u p.src.toNat + p.delay ≤ yv e V gp (u + p.tokens) p.dst.toNat := by
  obtain ⟨hs, hd, h0, ht, ht5, _⟩ := G.place hp
  by_cases h1 : p.tokens = 0
  · rw [h1, Int.add_zero]
    obtain ⟨k, rfl⟩ : ∃ k : Nat, u = ((k + 1 : Nat) : Int) := ⟨(u - 1).toNat, by omega⟩
    have ey : ∀ i, yv e V gp ((k + 1 : Nat) : Int) i = karT (V * e) (stK e gp) (k + 1) i := fun i => by
      unfold yv
      rw [if_neg (by omega), Int.toNat_natCast]
    rw [ey] at h ⊢
    rw [ey]
    rcases sumT_mem (V * e) (fun q => tms (stK e gp p.src.toNat q) (karT (V * e) (stK e gp) k q)) with h2 | ⟨q, hq, h2⟩
    · exact absurd h2 h
    · have h3 : karT (V * e) (stK e gp) (k + 1) p.src.toNat = tms (stK e gp p.src.toNat q) (karT (V * e) (stK e gp) k q) := h2
      rw [h3] at h
      obtain ⟨h4, h5, h6⟩ := tms_ne h
      rw [stK_top hs] at h4
      obtain ⟨h7, h8⟩ := G.closTwo hp h1 (Nat.mod_lt q G.pos) h4
      have hdl : p.dst.toNat < V * e := Nat.lt_of_lt_of_le hd (Nat.le_mul_of_pos_left e G.vpos)
      obtain ⟨h9, h10⟩ := karT_step G.fin (by omega) (k := k) (v := p.dst.toNat) (u := q) (by omega) hdl hq (by rw [stK_top hd]; exact h7) h5
      rw [stK_top hd] at h10
      rw [h3, h6, stK_top hs]
      exact ⟨h9, by omega⟩
  · obtain ⟨c, hc⟩ : ∃ c : Nat, p.tokens = (c : Int) + 1 := ⟨(p.tokens - 1).toNat, by omega⟩
    have hcV : c < V := by have := G.tok p hp; omega
    obtain ⟨k, hk⟩ : ∃ k : Nat, u + p.tokens = ((k + 1 : Nat) : Int) := ⟨(u + p.tokens - 1).toNat, by omega⟩
    have ey : yv e V gp (u + p.tokens) p.dst.toNat = karT (V * e) (stK e gp) (k + 1) p.dst.toNat := by
      unfold yv
      rw [if_neg (by omega), hk, Int.toNat_natCast]
    have eu : yv e V gp u p.src.toNat = karT (V * e) (stK e gp) k (c * e + p.src.toNat) := by
      rw [kar_shift k c _ hcV hs, show (k : Int) - c = u by omega]
    rw [eu] at h ⊢
    rw [ey]
    have hdl : p.dst.toNat < V * e := Nat.lt_of_lt_of_le hd (Nat.le_mul_of_pos_left e G.vpos)
    obtain ⟨d1, d2⟩ := blk_div (e := e) (c := c) hs
    have hS : stK e gp p.dst.toNat (c * e + p.src.toNat) = closK e gp p.tokens p.dst.toNat p.src.toNat := by rw [stK_top hd, d1, d2, hc]
    obtain ⟨h2, h3⟩ := G.closOne hp
    obtain ⟨h4, h5⟩ := karT_step G.fin (by omega) (k := k) (v := p.dst.toNat) (u := c * e + p.src.toNat) (by omega) hdl (blk_lt hcV hs) (by rw [hS]; exact h2) h
    rw [hS] at h5
    exact ⟨h4, by omega⟩
/-! ### round a circuit -/
theorem sumZ_add (f : Nat → Int) (m : Nat) : ∀ n, sumZ (m + n) f = sumZ m f + sumZ n (fun t => f (m + t))
  | 0 => by simp [sumZ]
  | n + 1 => by
    have := sumZ_add f m n
    show sumZ (m + n) f + f (m + n) = _
    simp only [sumZ]
    omega
theorem sumZ_mono (f : Nat → Int) (h : ∀ t, 0 ≤ f t) (m : Nat) : ∀ n, sumZ m f ≤ sumZ (m + n) f
  | 0 => Int.le_refl _
  | n + 1 => by
    have := sumZ_mono f h m n
    have := h (m + n)
    show _ ≤ sumZ (m + n) f + f (m + n)
    omega
theorem sumZ_rounds (f : Nat → Int) (L : Nat) (hp : ∀ t, f (t + L) = f t) : ∀ k : Nat, sumZ (L * k) f = k * sumZ L f
  | 0 => by simp [sumZ]
  | k + 1 => by
    have h1 := sumZ_rounds f L hp k
    have h2 := sumZ_shift f L hp (L * k)
    rw [Nat.mul_succ, sumZ_add, h1, succ_mulI]
    have e : (fun t => f (L * k + t)) = (fun t => f (t + L * k)) := by funext t; rw [Nat.add_comm]
    rw [e, h2]
    omega
theorem Circ.rounds {gp : List Place} {L : Nat} {q : Nat → Nat} (h : Circ gp L q) : ∀ k, q (L * k) = q 0
  | 0 => by rw [Nat.mul_zero]
  | k + 1 => by rw [Nat.mul_succ, h.per, h.rounds k]
theorem StG.run (G : StG e V gp) {a b : Int} (hb : 0 ≤ b) {L : Nat} {q : Nat → Nat} (hc : Circ gp L q) (s : Nat) (u : Int) (h0 : yv e V gp u (pl gp (q s)).src.toNat ≠ bot) (h1 : 1 ≤ u + (pl gp (q s)).tokens) :
    ∀ r, u + sumZ (r + 1) (fun t => (pl gp (q (s + t))).tokens) ≤ 1000 →
      1 ≤ u + sumZ (r + 1) (fun t => (pl gp (q (s + t))).tokens) ∧
      yv e V gp (u + sumZ (r + 1) (fun t => (pl gp (q (s + t))).tokens)) (pl gp (q (s + (r + 1)))).src.toNat ≠ bot ∧
      b * yv e V gp u (pl gp (q s)).src.toNat - a * u + sumZ (r + 1) (fun t => wgt a b (pl gp (q (s + t)))) ≤
        b * yv e V gp (u + sumZ (r + 1) (fun t => (pl gp (q (s + t))).tokens)) (pl gp (q (s + (r + 1)))).src.toNat - a * (u + sumZ (r + 1) (fun t => (pl gp (q (s + t))).tokens)) := by
  intro r
  induction r with
  | zero =>
    intro hle
    have e1 : sumZ (0 + 1) (fun t => (pl gp (q (s + t))).tokens) = (pl gp (q s)).tokens := by simp [sumZ]
    have e2 : sumZ (0 + 1) (fun t => wgt a b (pl gp (q (s + t)))) = wgt a b (pl gp (q s)) := by simp [sumZ]
    rw [e1] at hle ⊢
    rw [e2]
    obtain ⟨h2, h3⟩ := G.step (pl_mem (hc.lt s)) h1 hle h0
    rw [hc.nx s] at h2 h3
    refine ⟨h1, h2, ?_⟩
    have h4 := Int.mul_le_mul_of_nonneg_left h3 hb
    unfold wgt
    rw [Int.mul_add] at h4
    rw [Int.mul_add]
    show _ ≤ b * yv e V gp (u + (pl gp (q s)).tokens) (pl gp (q (s + 1))).src.toNat - _
    omega
  | succ r ih =>
    intro hle
    have e1 : sumZ (r + 1 + 1) (fun t => (pl gp (q (s + t))).tokens) = sumZ (r + 1) (fun t => (pl gp (q (s + t))).tokens) + (pl gp (q (s + (r + 1)))).tokens := rfl
    have e2 : sumZ (r + 1 + 1) (fun t => wgt a b (pl gp (q (s + t)))) = sumZ (r + 1) (fun t => wgt a b (pl gp (q (s + t)))) + wgt a b (pl gp (q (s + (r + 1)))) := rfl
    rw [e1] at hle ⊢
    rw [e2]
    have ht := (G.place (pl_mem (hc.lt (s + (r + 1))))).2.2.2.1
    obtain ⟨h2, h3, h4⟩ := ih (by omega)
    generalize sumZ (r + 1) (fun t => (pl gp (q (s + t))).tokens) = TS at *
    generalize sumZ (r + 1) (fun t => wgt a b (pl gp (q (s + t)))) = WS at *
    obtain ⟨h5, h6⟩ := G.step (pl_mem (hc.lt (s + (r + 1)))) (u := u + TS) (by omega) (by omega) h3
    rw [hc.nx (s + (r + 1))] at h5 h6
    rw [show u + (TS + (pl gp (q (s + (r + 1)))).tokens) = u + TS + (pl gp (q (s + (r + 1)))).tokens by omega]
    refine ⟨by omega, h5, ?_⟩
    have h7 := Int.mul_le_mul_of_nonneg_left h6 hb
    rw [Int.mul_add] at h7
    unfold wgt
    rw [Int.mul_add a (u + TS)]
    show _ ≤ b * yv e V gp (u + TS + (pl gp (q (s + (r + 1)))).tokens) (pl gp (q (s + (r + 1) + 1))).src.toNat - _
    omega
end
theorem least_nat {P : Nat → Prop} (h : ∃ s, P s) : ∃ s, P s ∧ ∀ j, j < s → ¬ P j := by
  obtain ⟨m, hm⟩ := h
  induction m using Nat.strongRecOn with
  | _ m ih =>
    by_cases h : ∃ j, j < m ∧ P j
    · obtain ⟨j, hj, hp⟩ := h
      exact ih j hj hp
    · exact ⟨m, hm, fun j hj hp => h ⟨j, hj, hp⟩⟩
theorem max_int {P : Int → Prop} (Z : Int → Int) (lo : Int) : ∀ (m : Nat), (∃ u, lo ≤ u ∧ u < lo + m ∧ P u) → ∃ u0, lo ≤ u0 ∧ u0 < lo + m ∧ P u0 ∧ ∀ u, lo ≤ u → u < lo + m → P u → Z u ≤ Z u0 := by
  intro m
  induction m with
  | zero => rintro ⟨u, h1, h2, _⟩; omega
  | succ m ih =>
    rintro ⟨u, h1, h2, h3⟩
    by_cases h : ∃ u, lo ≤ u ∧ u < lo + m ∧ P u
    · obtain ⟨u0, g1, g2, g3, g4⟩ := ih h
      by_cases hm : P (lo + m) ∧ Z u0 ≤ Z (lo + m)
      · refine ⟨lo + m, by omega, by omega, hm.1, fun w w1 w2 w3 => ?_⟩
        by_cases e : w = lo + m
        · rw [e]; exact Int.le_refl _
        · exact Int.le_trans (g4 w w1 (by omega) w3) hm.2
      · refine ⟨u0, g1, by omega, g3, fun w w1 w2 w3 => ?_⟩
        by_cases e : w = lo + m
        · subst e
          have : ¬ Z u0 ≤ Z (lo + m) := fun h => hm ⟨w3, h⟩
          omega
        · exact g4 w w1 (by omega) w3
    · have e : u = lo + m := by
        apply Classical.byContradiction
        intro e
        exact h ⟨u, h1, by omega, h3⟩
      subst e
      refine ⟨lo + m, by omega, by omega, h3, fun w w1 w2 w3 => ?_⟩
      by_cases e : w = lo + m
      · rw [e]; exact Int.le_refl _
      · exact absurd ⟨w, w1, by omega, w3⟩ h
/-- A circuit whose ratio is a / b makes the table reach it. -/
theorem StG.reach {e V : Nat} {gp : List Place} (G : StG e V gp) {a b : Int} {x : Nat → Int} (ha : 0 ≤ a) (hb : 0 ≤ b) (hx : PotG gp a b x) {L : Nat} {q : Nat → Nat} (hc : Circ gp L q)
    (hw : sumZ L (fun t => wgt a b (pl gp (q t))) = 0) (ht : 1 ≤ (pl gp (q 0)).tokens) (hL : sumZ L (fun t => (pl gp (q t)).tokens) ≤ 500) :
    ∃ v, v < V * e ∧ karT (V * e) (stK e gp) (V * e) v ≠ bot ∧ ∀ k, k < V * e → karT (V * e) (stK e gp) k v ≠ bot →
      b * karT (V * e) (stK e gp) k v - k * a ≤ b * karT (V * e) (stK e gp) (V * e) v - ((V * e : Nat) : Int) * a := by
  have hN := G.small
  have hN1 : 1 ≤ V * e := Nat.le_trans G.pos (Nat.le_mul_of_pos_left e G.vpos)
  have htk : ∀ t, 0 ≤ (pl gp (q t)).tokens ∧ (pl gp (q t)).tokens ≤ 5 := fun t => by have := G.place (pl_mem (hc.lt t)); omega
  have hsl : ∀ t, (pl gp (q t)).src.toNat < e := fun t => (G.place (pl_mem (hc.lt t))).1
  obtain ⟨N, hNe⟩ : ∃ N, V * e = N := ⟨_, rfl⟩
  have hfin := G.fin
  have hpot := G.pot hx
  have hi0 : (pl gp (q 0)).src.toNat < V * e := Nat.lt_of_lt_of_le (hsl 0) (Nat.le_mul_of_pos_left e G.vpos)
  have ey : ∀ k : Nat, yv e V gp (k : Int) (pl gp (q 0)).src.toNat = karT (V * e) (stK e gp) k (pl gp (q 0)).src.toNat := fun k => by
    have := kar_shift (gp := gp) k 0 _ G.vpos (hsl 0)
    rw [Nat.zero_mul, Nat.zero_add] at this
    rw [this]
    simp
  obtain ⟨u0, g1, g2, g3, g4⟩ := max_int (P := fun u => yv e V gp u (pl gp (q 0)).src.toNat ≠ bot) (fun u => b * yv e V gp u (pl gp (q 0)).src.toNat - a * u) (1 - (pl gp (q 0)).tokens) ((pl gp (q 0)).tokens.toNat - 1 + V * e)
    ⟨0, by omega, by have := htk 0; omega, by show yv e V gp 0 _ ≠ bot; unfold yv; rw [if_pos (by omega)]; unfold bot; omega⟩
  have hmax : ∀ u, 1 - (pl gp (q 0)).tokens ≤ u → yv e V gp u (pl gp (q 0)).src.toNat ≠ bot → b * yv e V gp u (pl gp (q 0)).src.toNat - a * u ≤ b * yv e V gp u0 (pl gp (q 0)).src.toNat - a * u0 := by
    intro u h1 h2
    by_cases h3 : u < (V * e : Nat)
    · exact g4 u h1 (by omega) h2
    · obtain ⟨k, rfl⟩ : ∃ k : Nat, u = (k : Int) := ⟨u.toNat, by omega⟩
      rw [ey] at h2 ⊢
      obtain ⟨k', h4, h5, h6⟩ := kar_dom hfin (by omega) (by omega) hpot hb hi0 h2
      have h7 := g4 (k' : Int) (by omega) (by omega) (by rw [ey]; exact h5)
      simp only [ey] at h7
      rw [Int.mul_comm a k, Int.le_iff_lt_add_one] at *
      rw [Int.mul_comm a k'] at h7
      omega
  have hu0 : u0 < ((V * e : Nat) : Int) := by have := htk 0; omega
  have hper : ∀ t, (pl gp (q (t + L))).tokens = (pl gp (q t)).tokens := fun t => by rw [hc.per]
  have hperw : ∀ t, wgt a b (pl gp (q (t + L))) = wgt a b (pl gp (q t)) := fun t => by rw [hc.per]
  -- the first time beyond the table
  have hL1 : 1 ≤ sumZ L (fun t => (pl gp (q t)).tokens) := by
    have h1 := sumZ_mono (fun t => (pl gp (q t)).tokens) (fun t => (htk t).1) 1 (L - 1)
    rw [show 1 + (L - 1) = L by have := hc.pos; omega] at h1
    have h2 : sumZ 1 (fun t => (pl gp (q t)).tokens) = (pl gp (q 0)).tokens := by simp [sumZ]
    omega
  obtain ⟨s, hs, hmin⟩ := least_nat (P := fun s => ((V * e : Nat) : Int) < u0 + sumZ (s + 1) (fun t => (pl gp (q t)).tokens)) (by
    refine ⟨L * 20, ?_⟩
    have h1 := sumZ_rounds (fun t => (pl gp (q t)).tokens) L hper 20
    have h2 := sumZ_mono (fun t => (pl gp (q t)).tokens) (fun t => (htk t).1) (L * 20) 1
    have := htk 0
    show _ < u0 + sumZ (L * 20 + 1) _
    omega)
  have hlow : u0 + sumZ s (fun t => (pl gp (q t)).tokens) ≤ ((V * e : Nat) : Int) := by
    cases s with
    | zero => simp [sumZ]; omega
    | succ s => have := hmin s (by omega); omega
  have hs' : ((V * e : Nat) : Int) < u0 + sumZ s (fun t => (pl gp (q t)).tokens) + (pl gp (q s)).tokens := by
    have : sumZ (s + 1) (fun t => (pl gp (q t)).tokens) = sumZ s (fun t => (pl gp (q t)).tokens) + (pl gp (q s)).tokens := rfl
    rw [this] at hs
    omega
  have hreach : yv e V gp (u0 + sumZ s (fun t => (pl gp (q t)).tokens)) (pl gp (q s)).src.toNat ≠ bot ∧
      b * yv e V gp u0 (pl gp (q 0)).src.toNat - a * u0 + sumZ s (fun t => wgt a b (pl gp (q t))) ≤ b * yv e V gp (u0 + sumZ s (fun t => (pl gp (q t)).tokens)) (pl gp (q s)).src.toNat - a * (u0 + sumZ s (fun t => (pl gp (q t)).tokens)) := by
    cases s with
    | zero => simp only [sumZ, Int.add_zero]; exact ⟨g3, Int.le_refl _⟩
    | succ s =>
      have h := G.run (a := a) hb hc 0 u0 g3 (by omega) s (by simp only [Nat.zero_add]; omega)
      simp only [Nat.zero_add] at h
      exact h.2
  generalize hTS : sumZ s (fun t => (pl gp (q t)).tokens) = TS at *
  generalize hWS : sumZ s (fun t => wgt a b (pl gp (q t))) = WS at *
  obtain ⟨c, hcc⟩ : ∃ c : Nat, u0 + TS = ((V * e : Nat) : Int) - c := ⟨(((V * e : Nat) : Int) - (u0 + TS)).toNat, by omega⟩
  have hct : (c : Int) < (pl gp (q s)).tokens := by omega
  have hcV : c < V := by have := G.tok _ (pl_mem (hc.lt s)); omega
  have hk : ∀ k, karT (V * e) (stK e gp) k (c * e + (pl gp (q s)).src.toNat) = yv e V gp ((k : Int) - c) (pl gp (q s)).src.toNat := fun k => kar_shift k c _ hcV (hsl s)
  refine ⟨c * e + (pl gp (q s)).src.toNat, blk_lt hcV (hsl s), ?_, ?_⟩
  · rw [hk, ← hcc]; exact hreach.1
  · intro k hkN hne
    rw [hk] at hne ⊢
    rw [hk, ← hcc]
    have hL0 := hc.pos
    have hmod := Nat.mod_lt s hL0
    obtain ⟨r, hr⟩ : ∃ r, s % L + (r + 1) = L := ⟨L - s % L - 1, by omega⟩
    have hsr : s + (r + 1) = L * (s / L + 1) := by
      have h1 := Nat.div_add_mod s L
      rw [Nat.mul_succ]
      omega
    have hsum : sumZ (r + 1) (fun t => (pl gp (q (s + t))).tokens) ≤ 500 := by
      have h1 := sumZ_mono (fun t => (pl gp (q (s + t))).tokens) (fun t => (htk _).1) (r + 1) (L - (r + 1))
      rw [show r + 1 + (L - (r + 1)) = L by omega] at h1
      have h2 := sumZ_shift (fun t => (pl gp (q t)).tokens) L hper s
      have e1 : (fun t => (pl gp (q (s + t))).tokens) = (fun t => (pl gp (q (t + s))).tokens) := by funext t; rw [Nat.add_comm]
      rw [e1] at h1 ⊢
      omega
    obtain ⟨h1, h2, h3⟩ := G.run (a := a) hb hc s ((k : Int) - c) hne (by omega) r (by omega)
    have hws : sumZ (r + 1) (fun t => wgt a b (pl gp (q (s + t)))) = - WS := by
      have h4 := sumZ_add (fun t => wgt a b (pl gp (q t))) s (r + 1)
      have h5 := sumZ_rounds (fun t => wgt a b (pl gp (q t))) L hperw (s / L + 1)
      rw [hsr, h5, hw, Int.mul_zero, hWS] at h4
      omega
    rw [hws] at h3
    rw [hsr, hc.rounds] at h2 h3
    have h6 := hmax _ (by have := htk 0; omega) h2
    have h7 := hreach.2
    have e3 : a * ((k : Int) - c) = k * a - c * a := by rw [Int.mul_sub, Int.mul_comm a k, Int.mul_comm a c]
    have e4 : a * (u0 + TS) = ((V * e : Nat) : Int) * a - c * a := by rw [hcc, Int.mul_sub, Int.mul_comm a c, Int.mul_comm a ((V * e : Nat) : Int)]
    rw [e3] at h3
    rw [e4] at h7
    omega
end Go.Proofs.Ytcoomogabicfnaa
