/-
  The cycle mean of the state matrix is the cycle time; the closed matrix's equation: plain Lean.
-/
import Derived.Test.YtcoomogabicfnaaCycM
namespace Go.Proofs.Ytcoomogabicfnaa
open Go.RowKit
set_option linter.unusedVariables false
set_option linter.unusedSimpArgs false
/-! ### a potential where no circuit is better -/
theorem bound_all (wt : Nat → Int) : ∀ m : Nat, ∃ W : Int, 0 ≤ W ∧ ∀ i, i < m → wt i ≤ W
  | 0 => ⟨0, Int.le_refl _, fun i h => absurd h (Nat.not_lt_zero i)⟩
  | m + 1 => by
    obtain ⟨W, h1, h2⟩ := bound_all wt m
    refine ⟨max W (wt m), by omega, fun i hi => ?_⟩
    by_cases e : i = m
    · rw [e]; omega
    · have := h2 i (by omega); omega
theorem bf_pass {m : Nat} {s d : Nat → Nat} {wt : Nat → Int} {W : Int} (hW : ∀ i, i < m → wt i ≤ W) (hW0 : 0 ≤ W) {k T : Nat} {S : Bf} (h : BfOk m s d wt W k 0 T S) :
    ∀ i, i ≤ m → ∃ T' S', BfOk m s d wt W k i T' S'
  | 0, _ => ⟨T, S, h⟩
  | i + 1, hi => by
    obtain ⟨T', S', h'⟩ := bf_pass hW hW0 h i (by omega)
    exact ⟨_, _, h'.step m s d wt W hW hW0 (by omega)⟩
theorem bf_passes {m : Nat} {s d : Nat → Nat} {wt : Nat → Int} {W : Int} (hW : ∀ i, i < m → wt i ≤ W) (hW0 : 0 ≤ W) : ∀ k, ∃ T S, BfOk m s d wt W (k + 1) 0 T S
  | 0 => ⟨0, _, BfOk.start m s d wt W⟩
  | k + 1 => by
    obtain ⟨T, S, h⟩ := bf_passes hW hW0 k
    obtain ⟨T', S', h'⟩ := bf_pass hW hW0 h m (Nat.le_refl _)
    exact ⟨T', S', h'.next⟩
theorem pot_exists {gp : List Place} {n : Nat} {a b : Int} (hg : okGraph n gp = true) (hn : ¬ OverC gp a b 0) : ∃ x, PotG gp a b x := by
  obtain ⟨W, hW0, hW⟩ := bound_all (fun j => wgt a b (pl gp j)) gp.length
  obtain ⟨T0, S0, h0⟩ := bf_passes (s := fun j => (pl gp j).src.toNat) (d := fun j => (pl gp j).dst.toNat) hW hW0 n
  obtain ⟨T, S, h⟩ := bf_pass hW hW0 h0 gp.length (Nat.le_refl _)
  have hsl : ∀ j, j < gp.length → (pl gp j).src.toNat < n := fun j hj => by have := okGraph_place hg (pl_mem hj); omega
  refine ⟨S.best, fun p hp => ?_⟩
  obtain ⟨j, hj, rfl⟩ := List.mem_iff_getElem.1 hp
  rw [← pl_at hj]
  have h1 := h.fresh j hj
  rcases h1 with h1 | h1 | h1
  · exact h1
  · exfalso
    obtain ⟨L, hL, hLn, hc, hr⟩ := back_cycle h hsl _ (hsl j hj) h1.2
    have hex : ∃ t, 0 < t ∧ backB (fun j => (pl gp j).src.toNat) S (backB (fun j => (pl gp j).src.toNat) S ((pl gp j).src.toNat) n) t = backB (fun j => (pl gp j).src.toNat) S ((pl gp j).src.toNat) n := ⟨L, hL, hc⟩
    obtain ⟨t, ⟨ht, hct⟩, hmin⟩ := least_nat hex
    obtain ⟨h2, h3⟩ := better_circ h hg _ t ht hct (fun q hq hqt he => hmin q hqt ⟨hq, he⟩) (fun q => by rw [← back_add]; exact hr _)
    exact hn ⟨_, h2, h3⟩
  · omega
/-! ### lowest terms of any sign -/
theorem rz_facts (x : Int) (d : Nat) (hd : 0 < d) : 0 < rzD x d ∧ rzN x d * d = rzD x d * x ∧ (0 ≤ rzN x d → Nat.gcd (rzN x d).toNat (rzD x d).toNat = 1) := by
  obtain ⟨h1, h2, h3, h4, h5, h6⟩ := low_facts x.natAbs d hd
  unfold rzN rzD
  refine ⟨h2, ?_, ?_⟩
  · split
    · rw [Int.neg_mul, h4, ← Int.mul_neg]
      congr 1
      omega
    · rw [h4]
      congr 1
      omega
  · split
    · intro h
      exfalso
      have e : lowN x.natAbs d = 0 := by omega
      rw [e, Int.zero_mul] at h4
      have := Int.mul_pos h2 (show (0 : Int) < (x.natAbs : Int) by omega)
      omega
    · intro _; exact h3
/-- A fraction's lowest terms against another fraction. -/
theorem rz_le {x a b : Int} {d : Nat} (hd : 0 < d) (h : b * x ≤ d * a) : rzN x d * b ≤ a * rzD x d := by
  obtain ⟨h1, h2, _⟩ := rz_facts x d hd
  have e1 : rzD x d * (b * x) ≤ rzD x d * (d * a) := Int.mul_le_mul_of_nonneg_left h (by omega)
  have e2 : rzD x d * (b * x) = rzN x d * b * d := by
    rw [Int.mul_comm b x, ← Int.mul_assoc, ← h2, Int.mul_assoc, Int.mul_comm (d : Int) b, ← Int.mul_assoc]
  have e3 : rzD x d * (d * a) = a * rzD x d * d := by
    rw [Int.mul_comm (d : Int) a, ← Int.mul_assoc, Int.mul_comm (rzD x d) a]
  exact Int.le_of_mul_le_mul_right (show rzN x d * b * d ≤ a * rzD x d * d by omega) (by omega)
theorem rz_ge {x a b : Int} {d : Nat} (hd : 0 < d) (h : d * a ≤ b * x) : a * rzD x d ≤ rzN x d * b := by
  obtain ⟨h1, h2, _⟩ := rz_facts x d hd
  have e1 : rzD x d * (d * a) ≤ rzD x d * (b * x) := Int.mul_le_mul_of_nonneg_left h (by omega)
  have e2 : rzD x d * (b * x) = rzN x d * b * d := by
    rw [Int.mul_comm b x, ← Int.mul_assoc, ← h2, Int.mul_assoc, Int.mul_comm (d : Int) b, ← Int.mul_assoc]
  have e3 : rzD x d * (d * a) = a * rzD x d * d := by
    rw [Int.mul_comm (d : Int) a, ← Int.mul_assoc, Int.mul_comm (rzD x d) a]
  exact Int.le_of_mul_le_mul_right (show a * rzD x d * d ≤ rzN x d * b * d by omega) (by omega)
/-! ### the greatest ratio of a circuit is there -/
theorem max_exists {gp : List Place} {n : Nat} (hg : okGraph n gp = true) (hl : ∃ o, orderF n gp = some o) (hm : ∃ m, circuitB gp m = true) : ∃ a b, IsMax gp a b := by
  have key : ∀ (q : Nat) (a b : Int), muR a b = q → RatSt gp a b → ∃ a b, IsMax gp a b := by
    intro q
    induction q using Nat.strongRecOn with
    | _ q ih =>
      intro a b hq hS
      by_cases ho : OverC gp a b 0
      · obtain ⟨m, hc, hw⟩ := ho
        have hlt := muR_lt hg hl (hS.le hg hl).2.2.1 hc hw
        exact ih _ (by omega) _ _ rfl (.inr ⟨m, hc, rfl, rfl⟩)
      · exact ⟨a, b, hS.max hg hl hm ho⟩
  exact key _ 0 1 rfl (.inl ⟨rfl, rfl⟩)
theorem sumZ_some {f : Nat → Int} : ∀ n, 0 < sumZ n f → ∃ t, t < n ∧ 0 < f t
  | 0, h => by simp [sumZ] at h
  | n + 1, h => by
    by_cases h1 : 0 < f n
    · exact ⟨n, by omega, h1⟩
    · have h2 : sumZ (n + 1) f = sumZ n f + f n := rfl
      obtain ⟨t, h3, h4⟩ := sumZ_some n (f := f) (by omega)
      exact ⟨t, by omega, h4⟩
/-- A circuit of the greatest ratio, told from a place that holds tokens. -/
theorem IsMax.circ {gp : List Place} {n : Nat} {a b : Int} (h : IsMax gp a b) (hg : okGraph n gp = true) (hl : ∃ o, orderF n gp = some o) :
    ∃ L q, Circ gp L q ∧ sumZ L (fun t => wgt a b (pl gp (q t))) = 0 ∧ 1 ≤ (pl gp (q 0)).tokens ∧ sumZ L (fun t => (pl gp (q t)).tokens) ≤ 500 := by
  obtain ⟨_, _, _, _, m, hm, h0⟩ := h
  have hc := circ_of_list hm
  rw [circ_of_list_sum a b] at h0
  have ht := live_tokens hg hl hm
  have hk := (sums_le hg ((circuit_iff gp m).1 hm).2.1 m.length (Nat.le_refl _)).2.2
  have hlen := circuit_len hg hm
  have hn := okGraph_ev hg
  have e1 : cwL (-1) 0 gp m = sumK gp m m.length := by unfold cwL; omega
  rw [circ_of_list_sum (-1) 0] at e1
  have e2 : (fun t => wgt (-1) 0 (pl gp ((m.getD (t % m.length) 0).toNat))) = (fun t => (pl gp ((m.getD (t % m.length) 0).toNat)).tokens) := by funext t; unfold wgt; omega
  rw [e2] at e1
  revert h0 e1
  generalize hq : (fun i => (m.getD (i % m.length) 0).toNat) = q at hc
  intro h0 e1
  have h0' : sumZ m.length (fun t => wgt a b (pl gp (q t))) = 0 := by rw [← hq]; exact h0
  have e1' : sumZ m.length (fun t => (pl gp (q t)).tokens) = sumK gp m m.length := by rw [← hq]; exact e1
  obtain ⟨s, hs, hpos⟩ := sumZ_some m.length (f := fun t => (pl gp (q t)).tokens) (by omega)
  refine ⟨m.length, _, hc.shift s, ?_, ?_, ?_⟩
  · have h1 := sumZ_shift (fun t => wgt a b (pl gp (q t))) m.length (fun t => by show wgt a b (pl gp (q (t + m.length))) = _; rw [hc.per]) s
    exact h1.trans h0'
  · show 1 ≤ (pl gp (q (0 + s))).tokens
    rw [Nat.zero_add]
    omega
  · have h1 := sumZ_shift (fun t => (pl gp (q t)).tokens) m.length (fun t => by show (pl gp (q (t + m.length))).tokens = _; rw [hc.per]) s
    have h2 : sumZ m.length (fun t => (pl gp (q (t + s))).tokens) = sumK gp m m.length := h1.trans e1'
    show sumZ m.length (fun t => (pl gp (q (t + s))).tokens) ≤ 500
    omega
/-! ### the two are one -/
/-- Where there is no circuit, no walk is as long as the table. -/
theorem StG.none {e V : Nat} {gp : List Place} (G : StG e V gp) (hm : ¬ ∃ m, circuitB gp m = true) : ∀ v, v < V * e → karT (V * e) (stK e gp) (V * e) v = bot := by
  intro v hv
  apply Classical.byContradiction
  intro hne
  have hN := G.small
  obtain ⟨x, hx⟩ := pot_exists (a := -1) (b := 0) G.ok (fun ⟨m, h, _⟩ => hm ⟨m, h⟩)
  obtain ⟨k, hk, _, h2⟩ := kar_dom G.fin (by omega) (by omega) (G.pot hx) (Int.le_refl _) hv hne
  omega
theorem StG.mean {e V : Nat} {gp : List Place} (G : StG e V gp) {a b : Int} {f : Bool} (h : MeanS (V * e) (stK e gp) (V * e) a b f) :
    (f = false ∧ ctF e gp = (0, 0, 4)) ∨ (f = true ∧ ctF e gp = (a, b, 0) ∧ ratioOk a b = true) := by
  have hN := G.small
  have hN1 : 1 ≤ V * e := Nat.le_trans G.pos (Nat.le_mul_of_pos_left e G.vpos)
  have hlv : ∃ o, orderF (e : Int).toNat gp = some o := by simpa using G.live
  by_cases hm : ∃ m, circuitB gp m = true
  · obtain ⟨A, B, hX⟩ := max_exists G.ok G.live hm
    have hXle := hX.le G.ok G.live
    obtain ⟨L, q, hc, hw, ht, hL⟩ := hX.circ G.ok G.live
    obtain ⟨hA, hB, hgcd, hno, _⟩ := id hX
    obtain ⟨x, hx⟩ := pot_exists G.ok hno
    obtain ⟨v0, hv0, hne0, hall⟩ := G.reach hA (Int.le_of_lt hB) hx hc hw ht hL
    have hdom := fun v (hv : v < V * e) (hne : karT (V * e) (stK e gp) (V * e) v ≠ bot) => kar_dom G.fin (by omega) (by omega) (G.pot hx) (Int.le_of_lt hB) hv hne
    have hfin := G.fin
    have hct : ctF e gp = (A, B, 0) := ct_eq (ct_some G.ok hlv hX)
    generalize stK e gp = F at *
    generalize V * e = N at *
    cases f with
    | false => exact absurd (h.1 rfl v0 hv0) hne0
    | true =>
      right
      obtain ⟨⟨v, hv, hne, hLv⟩, hup⟩ := h.2 rfl
      obtain ⟨c, d, hL0, hcd⟩ := hup v0 hv0 hne0
      -- above: the node's own quotients do not pass A / B
      obtain ⟨k', hk', hnek', hle⟩ := hdom v hv hne
      have u1 := (hLv.2 rfl).2 k' hk' hnek'
      have u2 : qN N F v k' * B ≤ A * qD N F v k' := by
        refine rz_le (by omega) ?_
        have e1 : ((N - k' : Nat) : Int) = (N : Int) - k' := by omega
        rw [e1, Int.mul_sub, Int.sub_mul]
        omega
      have p1 := (q_bd hfin (by omega) hk' hv hne hnek').2.2.1
      have hbv := hLv.bd hfin (by omega) hv hne
      have up : a * B ≤ A * b := cmp_trans p1 hbv.2.1 hB u1 u2
      -- below: the reached node's least quotient is A / B or more
      obtain ⟨k, hk, hnek, ec, ed⟩ := (hL0.2 rfl).1
      have l1 : A * qD N F v0 k ≤ qN N F v0 k * B := by
        refine rz_ge (by omega) ?_
        have e1 : ((N - k : Nat) : Int) = (N : Int) - k := by omega
        have := hall k hk hnek
        rw [e1, Int.mul_sub, Int.sub_mul]
        omega
      rw [← ec, ← ed] at l1
      have p2 := (hL0.bd hfin (by omega) hv0 hne0).2.1
      have lo : A * b ≤ a * B := cmp_trans p2 hB hbv.2.1 l1 hcd
      have heq : a * B = A * b := by omega
      obtain ⟨kk, hkk, hnekk, ea, eb⟩ := (hLv.2 rfl).1
      have ha0 : 0 ≤ a := by
        rcases Int.lt_or_le a 0 with hneg | h0
        · exfalso
          have e1 := Int.mul_pos (show (0 : Int) < -a by omega) hB
          have e2 := Int.mul_nonneg hA (show 0 ≤ b by omega)
          rw [Int.neg_mul] at e1
          omega
        · exact h0
      obtain ⟨r1, r2, r3⟩ := rz_facts (karT N F N v - karT N F kk v) (N - kk) (by omega)
      have hg2 : Nat.gcd a.toNat b.toNat = 1 := by
        rw [ea, eb]
        exact r3 (by have : a = rzN (karT N F N v - karT N F kk v) (N - kk) := ea; omega)
      obtain ⟨rfl, rfl⟩ := low_uniq ha0 hbv.2.1 hA hB hg2 hgcd heq
      refine ⟨rfl, hct, ?_⟩
      unfold ratioOk inB
      have e3 : Nat.gcd a.natAbs b.natAbs = 1 := by
        rw [show a.natAbs = a.toNat by omega, show b.natAbs = b.toNat by omega]; exact hg2
      simp [e3]
      omega
  · left
    have hnone := G.none hm
    refine ⟨?_, ct_eq (ct_none G.ok hlv hm)⟩
    cases f with
    | false => rfl
    | true =>
      obtain ⟨⟨v, hv, hne, _⟩, _⟩ := h.2 rfl
      exact absurd (hnone v hv) hne
theorem vmax_ge {gp : List Place} : ∀ k, k ≤ gp.length → ∀ j (hj : j < gp.length), j < k → gp[j].tokens ≤ vmaxF (gp.take k) := by
  intro k
  induction k with
  | zero => intro _ j _ h; omega
  | succ k ih =>
    intro hk j hj hjk
    rw [vmaxF_succ _ _ (by omega)]
    by_cases e : j = k
    · subst e; omega
    · have := ih (by omega) j hj (by omega); omega
theorem liveC_zeroK {ge : Int} {gp : List Place} (h : liveC ge gp = 0) : okGraph ge gp = true ∧ ∃ o, orderF ge.toNat gp = some o := by
  unfold liveC at h
  split at h
  · omega
  · rename_i h1
    split at h
    · omega
    · rename_i h2
      refine ⟨by simpa using h1, ?_⟩
      cases h9 : orderF ge.toNat gp with
      | none => rw [h9] at h2; exact absurd rfl h2
      | some o => exact ⟨o, rfl⟩
/-- The state matrix that StateMatrix gives. -/
theorem st_of {n : Nat} {gp : List Place} (hl : liveC n gp = 0) (hs : ¬ 10 < vmaxF gp * n) : StG n (vmaxF gp).toNat gp ∧ vmaxF gp * n = (((vmaxF gp).toNat * n : Nat) : Int) := by
  obtain ⟨hg, o, ho⟩ := liveC_zeroK hl
  have hb := vmaxF_bd hg gp.length (Nat.le_refl _)
  rw [List.take_length] at hb
  have hn := okGraph_ev hg
  have e : ((vmaxF gp).toNat : Int) = vmaxF gp := by omega
  have e2 : vmaxF gp * n = (((vmaxF gp).toNat * n : Nat) : Int) := by rw [Int.natCast_mul, e]
  refine ⟨⟨hg, ⟨o, by simpa using ho⟩, by omega, by omega, fun p hp => ?_, by omega⟩, e2⟩
  obtain ⟨j, hj, rfl⟩ := List.mem_iff_getElem.1 hp
  have := vmax_ge (gp := gp) gp.length (Nat.le_refl _) j hj hj
  rw [List.take_length] at this
  omega
/-! ### the closed matrix's equation -/
theorem closed_eq {n : Nat} {gp : List Place} (hg : okGraph n gp = true) (hl : ∃ o, orderF n gp = some o) (m : Int) :
    matF n (maxF (delF m gp) (mulF n (delF 0 gp) (closK n gp m))) n = matF n (closK n gp m) n := by
  obtain ⟨o, ho⟩ := hl
  have hf : n ≤ 10 := by have := okGraph_ev hg; omega
  have hok := itOk_of_pot (delF_fin hg 0 n) (by omega) (by omega) hf (live_pot hg ho)
  have hsol := it_sol (delF_fin hg 0 n) (by omega) (by omega) hf hok
  have hI := finM_it (delF_fin hg 0 n) (by omega) (by omega) n (by omega)
  have hM := delF_fin hg m n
  have hD := delF_fin hg 0 n
  have hcl : ∀ k j, closK n gp m k j = sumT n (fun l => tms (itF n (delF 0 gp) n k l) (delF m gp l j)) := fun k j => rfl
  have hmu : ∀ i j, mulF n (delF 0 gp) (closK n gp m) i j = sumT n (fun k => tms (delF 0 gp i k) (closK n gp m k j)) := fun i j => rfl
  have hC : ∀ k l j, k < n → l < n → j < n → itF n (delF 0 gp) n k l ≠ bot → delF m gp l j ≠ bot → closK n gp m k j ≠ bot ∧ itF n (delF 0 gp) n k l + delF m gp l j ≤ closK n gp m k j := by
    intro k l j hk hl hj h1 h2
    have h3 := sumT_ge n (fun q => tms (itF n (delF 0 gp) n k q) (delF m gp q j)) l hl
    simp only [tms_eq h1 h2] at h3
    rw [← hcl] at h3
    refine ⟨?_, h3⟩
    rcases hI k l hk hl with e | e
    · exact absurd e h1
    rcases hM l j hl hj with e2 | e2
    · exact absurd e2 h2
    unfold bot
    omega
  have hmem : ∀ k j, k < n → j < n → closK n gp m k j ≠ bot → ∃ l, l < n ∧ itF n (delF 0 gp) n k l ≠ bot ∧ delF m gp l j ≠ bot ∧ closK n gp m k j = itF n (delF 0 gp) n k l + delF m gp l j := by
    intro k j hk hj h
    rcases sumT_mem n (fun l => tms (itF n (delF 0 gp) n k l) (delF m gp l j)) with e | ⟨l, hl, e⟩
    · exact absurd e h
    · rw [hcl] at h
      rw [e] at h
      obtain ⟨h1, h2, h3⟩ := tms_ne h
      exact ⟨l, hl, h1, h2, by rw [hcl, e, h3]⟩
  refine matF_congr fun i j hi hj => Int.le_antisymm ?_ ?_
  · show max (delF m gp i j) (mulF n (delF 0 gp) (closK n gp m) i j) ≤ closK n gp m i j
    have p1 : delF m gp i j ≤ closK n gp m i j := by
      by_cases e : delF m gp i j = bot
      · rw [e]; exact sumT_ge_bot _ _
      · have h1 := hsol.1 i hi
        have := (hC i i j hi hi hj (nonneg_ne h1) e).2
        omega
    have p2 : mulF n (delF 0 gp) (closK n gp m) i j ≤ closK n gp m i j := by
      rw [hmu]
      rcases sumT_mem n (fun k => tms (delF 0 gp i k) (closK n gp m k j)) with e | ⟨k, hk, e⟩
      · rw [e]; exact sumT_ge_bot _ _
      · rw [e]
        by_cases h0 : tms (delF 0 gp i k) (closK n gp m k j) = bot
        · rw [h0]; exact sumT_ge_bot _ _
        · obtain ⟨h1, h2, h3⟩ := tms_ne h0
          obtain ⟨l, hl, h4, h5, h6⟩ := hmem k j hk hj h2
          obtain ⟨h7, h8⟩ := hsol.2 i k l hi hk hl h1 h4
          have := (hC i l j hi hl hj h7 h5).2
          rw [h3, h6]
          omega
    omega
  · show closK n gp m i j ≤ max (delF m gp i j) (mulF n (delF 0 gp) (closK n gp m) i j)
    by_cases h0 : closK n gp m i j = bot
    · rw [h0]
      have : bot ≤ mulF n (delF 0 gp) (closK n gp m) i j := sumT_ge_bot _ _
      omega
    · obtain ⟨l, hl, h4, h5, h6⟩ := hmem i j hi hj h0
      have h8 : max (unitF i l) (mulF n (delF 0 gp) (itF n (delF 0 gp) n) i l) = itF n (delF 0 gp) n i l := hok i l hi hl
      by_cases hc : itF n (delF 0 gp) n i l = unitF i l
      · by_cases e : i = l
        · subst e
          have : unitF i i = 0 := if_pos rfl
          rw [hc, this] at h6
          omega
        · exact absurd (hc.trans (if_neg e)) h4
      · have h9 : itF n (delF 0 gp) n i l = mulF n (delF 0 gp) (itF n (delF 0 gp) n) i l := by omega
        rcases sumT_mem n (fun k => tms (delF 0 gp i k) (itF n (delF 0 gp) n k l)) with e | ⟨k, hk, e⟩
        · exact absurd (h9.trans e) h4
        · have h10 : itF n (delF 0 gp) n i l = tms (delF 0 gp i k) (itF n (delF 0 gp) n k l) := h9.trans e
          rw [h10] at h4
          obtain ⟨h11, h12, h13⟩ := tms_ne h4
          obtain ⟨h14, h15⟩ := hC k l j hk hl hj h12 h5
          have h16 := sumT_ge n (fun k => tms (delF 0 gp i k) (closK n gp m k j)) k hk
          simp only [tms_eq h11 h14] at h16
          rw [← hmu] at h16
          rw [h10, h13] at h6
          omega
end Go.Proofs.Ytcoomogabicfnaa
