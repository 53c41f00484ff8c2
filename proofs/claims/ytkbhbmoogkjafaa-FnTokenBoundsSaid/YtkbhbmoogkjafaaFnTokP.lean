/-
  Token distances satisfy the triangle inequality, and no place ever has more tokens than its bound: plain Lean, no program in sight.
-/
import Derived.Test.YtkbhbmoogkjafaaDistA
import Derived.Test.YtkbhbmoogkjafaaSeqA
namespace Go.Proofs.Ytkbhbmoogkjafaa
open Go.RowKit
set_option linter.unusedVariables false
set_option linter.unusedSimpArgs false
theorem SubO.shift {n : Nat} {F : Nat → Nat → Int} {x : Nat → Option Int} (h : SubO n F x) (c : Int) : SubO n F (fun i => (x i).map (· + c)) := by
  intro i m hi hm hne a ha
  cases hx : x m with
  | none => simp [hx] at ha
  | some b =>
    simp only [hx, Option.map_some] at ha
    injection ha with ha
    obtain ⟨d, hd, hle⟩ := h i m hi hm hne b hx
    exact ⟨d + c, by simp [hd], by omega⟩
theorem it_le2 {n : Nat} {F : Nat → Nat → Int} {x : Nat → Option Int} (h : SubO n F x) (j : Nat) (hj : j < n) (a : Int) (ha : x j = some a) (m i : Nat) (hi : i < n) (hne : itF n F m i j ≠ bot) : ∃ b, x i = some b ∧ itF n F m i j + a ≤ b := by
  obtain ⟨b, hb, hle⟩ := it_le (h.shift (-a)) j hj 0 (by simp [ha]; omega) (by omega) m i hi hne
  cases hx : x i with
  | none => simp [hx] at hb
  | some d =>
    simp only [hx, Option.map_some] at hb
    injection hb with hb
    exact ⟨d, rfl, by omega⟩
theorem dist_tri {n : Nat} {gp : List Place} (hg : okGraph n gp = true) {f v t : Nat} (hf : f < n) (hv : v < n) (ht : t < n) (h1 : 0 ≤ distD n gp f v) (h2 : 0 ≤ distD n gp v t) : distD n gp f t ≤ distD n gp f v + distD n gp v t := by
  obtain ⟨g1, g2⟩ := okGraph_ev hg
  have hS := it_sol (tok_fin hg n) (by omega) (by omega) (by omega) (tok_it hg (by omega))
  unfold distD at h1 h2 ⊢
  by_cases e1 : itF n (tokF gp) n v f = bot
  · rw [if_pos e1] at h1; omega
  by_cases e2 : itF n (tokF gp) n t v = bot
  · rw [if_pos e2] at h2; omega
  rw [if_neg e1] at h1 ⊢
  rw [if_neg e2] at h2 ⊢
  obtain ⟨b, hb, hle⟩ := it_le2 (hS.sub f hf) v hv _ (colO_some e1) n t ht e2
  unfold colO at hb
  split
  · omega
  · rename_i e3
    rw [if_neg e3] at hb
    injection hb with hb
    omega
/-- What TokenDistance gives. -/
def tokD (ge : Int) (gp : List Place) (f t : Int) : Int × Int :=
  if okGraph ge gp = true then (if (inB f 0 (ge - 1) && inB t 0 (ge - 1)) = true then (if distD ge.toNat gp f.toNat t.toNat < 0 then (0, 4) else (distD ge.toNat gp f.toNat t.toNat, 0)) else (0, 2)) else (0, 1)
theorem tokD_zero {ge : Int} {gp : List Place} {f t : Int} (h : (tokD ge gp f t).2 = 0) : okGraph ge gp = true ∧ (0 ≤ f ∧ f < ge) ∧ (0 ≤ t ∧ t < ge) ∧ 0 ≤ distD ge.toNat gp f.toNat t.toNat ∧ (tokD ge gp f t).1 = distD ge.toNat gp f.toNat t.toNat := by
  unfold tokD at h ⊢
  split at h
  · rename_i hg
    rw [if_pos hg]
    split at h
    · rename_i hb
      rw [if_pos hb]
      split at h
      · cases h
      · rename_i hd
        rw [if_neg hd]
        simp only [Bool.and_eq_true, inB_iff] at hb
        exact ⟨hg, ⟨hb.1.1, by omega⟩, ⟨hb.2.1, by omega⟩, by omega, rfl⟩
    · cases h
  · cases h
theorem tokD_tri {ge : Int} {gp : List Place} {f t v : Int} (h : (tokD ge gp f t).2 = 0) (h1 : (tokD ge gp f v).2 = 0) (h2 : (tokD ge gp v t).2 = 0) : (tokD ge gp f t).1 ≤ (tokD ge gp f v).1 + (tokD ge gp v t).1 := by
  obtain ⟨hg, ⟨a0, a1⟩, ⟨b0, b1⟩, _, e⟩ := tokD_zero h
  obtain ⟨_, _, ⟨c0, c1⟩, d1, e1⟩ := tokD_zero h1
  obtain ⟨_, _, _, d2, e2⟩ := tokD_zero h2
  obtain ⟨n, rfl⟩ := Int.eq_ofNat_of_zero_le (show 0 ≤ ge by omega)
  rw [e, e1, e2]
  rw [Int.toNat_natCast] at d1 d2 ⊢
  exact dist_tri hg (by omega) (by omega) (by omega) d1 d2
theorem tokD_small {ge : Int} {gp : List Place} {f t : Int} : 0 ≤ (tokD ge gp f t).1 ∧ (tokD ge gp f t).1 ≤ 1000 := by
  by_cases h : (tokD ge gp f t).2 = 0
  · obtain ⟨hg, ⟨a0, a1⟩, ⟨b0, b1⟩, d, e⟩ := tokD_zero h
    obtain ⟨n, rfl⟩ := Int.eq_ofNat_of_zero_le (show 0 ≤ ge by omega)
    rw [e]
    rw [Int.toNat_natCast] at d ⊢
    have := distD_small hg f.toNat t.toNat (by omega) (by omega)
    omega
  · unfold tokD at h ⊢
    split
    · rename_i hg
      rw [if_pos hg] at h
      split
      · rename_i hb
        rw [if_pos hb] at h
        split
        · omega
        · rename_i hd; rw [if_neg hd] at h; exact absurd rfl h
      · omega
    · omega
theorem seqF_cnt (n : Nat) (gp : List Place) : ∀ (l m m' : List Int), seqF n gp m l = (m', 0) → okMarking gp m = true → okMarking gp m' = true ∧ ∃ c : Int → Int, ∀ q (hq : q < gp.length), m'.getD q 0 = m.getD q 0 + c gp[q].src - c gp[q].dst := by
  intro l
  induction l with
  | nil =>
    intro m m' h hm
    have e : m = m' := congrArg Prod.fst h
    subst e
    exact ⟨hm, fun _ => 0, fun q hq => by simp⟩
  | cons e l ih =>
    intro m m' h hm
    have hml := okMarking_len hm
    simp only [seqF] at h
    split at h
    · rename_i hz
      have ho := firedF_zero hz
      obtain ⟨h1, c, hc⟩ := ih _ _ h ho
      refine ⟨h1, fun x => c x + if x = e then 1 else 0, fun q hq => ?_⟩
      rw [hc q hq]
      have hE : (firedF n gp m e).1 = fireM gp m e := by
        unfold firedF at hz ⊢
        split at hz
        · cases hz
        · split at hz
          · cases hz
          · rename_i k1 k2; rw [if_neg k1, if_neg k2]
      rw [hE]
      have hfl := fireM_len gp m e hml
      have e1 : (fireM gp m e).getD q 0 = fire1 gp[q] m[q] e := by
        rw [List.getD_eq_getElem?_getD, List.getElem?_eq_getElem (show q < (fireM gp m e).length by omega), Option.getD_some]
        exact fireM_get gp m e q hq (by omega) (by omega)
      have e2 : m.getD q 0 = m[q] := by rw [List.getD_eq_getElem?_getD, List.getElem?_eq_getElem (show q < m.length by omega), Option.getD_some]
      rw [e1, e2]
      unfold fire1
      by_cases d1 : gp[q].dst = e <;> by_cases d2 : gp[q].src = e <;> simp only [d1, d2, if_true, if_false] <;> omega
    · rename_i hz
      exact absurd (congrArg Prod.snd h) hz
/-- What the law asks of the bounds. -/
theorem tok_law {ge : Int} {gp : List Place} {l m : List Int} (h : fireSeqF ge gp l = (m, 0)) : okGraph ge gp = true ∧ m.length = gp.length ∧ ∀ q (hq : q < m.length), (tokB ge gp q).2 = 0 → m[q] ≤ (tokB ge gp q).1 := by
  unfold fireSeqF at h
  split at h
  · cases h
  rename_i hg
  split at h
  · cases h
  have hg : okGraph ge gp = true := by simpa using hg
  obtain ⟨g1, g2⟩ := okGraph_ev hg
  obtain ⟨n, rfl⟩ := Int.eq_ofNat_of_zero_le (show 0 ≤ ge by omega)
  rw [Int.toNat_natCast] at h
  obtain ⟨hm, c, hc⟩ := seqF_cnt n gp l _ _ h (firstF_ok hg)
  have hml := okMarking_len hm
  have hmb : ∀ k (hk : k < m.length), 0 ≤ m[k] := fun k hk => by
    have ho := hm
    unfold okMarking at ho
    simp only [Bool.and_eq_true] at ho
    exact ((inB_iff _ _ _).1 (List.all_eq_true.1 ho.2 _ (List.getElem_mem hk))).1
  refine ⟨hg, hml, fun q hq hb => ?_⟩
  have hq' : q < gp.length := by omega
  have hall : ∀ q (hq : q < gp.length), m.getD q 0 = gp[q].tokens + c gp[q].src - c gp[q].dst := fun q hq => by
    rw [hc q hq]
    have : (firstF gp).getD q 0 = gp[q].tokens := by simp [firstF, List.getD_eq_getElem?_getD, List.getElem?_eq_getElem hq]
    omega
  have hnn : ∀ q (hq : q < gp.length), 0 ≤ gp[q].tokens + c gp[q].src - c gp[q].dst := fun q hq => by
    rw [← hall q hq, List.getD_eq_getElem?_getD, List.getElem?_eq_getElem (show q < m.length by omega), Option.getD_some]
    exact hmb q (by omega)
  have hsub : SubO n (tokF gp) (fun i => some (-(c (i : Int)))) := by
    intro i k hi hk hne a ha
    injection ha with ha
    have hw := wgtF_from (fun p => - p.tokens) gp gp.length (Nat.le_refl _) i k
    rw [List.take_length] at hw
    rcases hw with hw | ⟨p, hp, e1, e2, e⟩
    · exact absurd hw hne
    · have hpp := okGraph_place hg hp
      obtain ⟨r, hr, rfl⟩ := List.mem_iff_getElem.1 hp
      have := hnn r hr
      refine ⟨_, rfl, ?_⟩
      unfold tokF
      rw [e]
      have i1 : (i : Int) = gp[r].dst := by omega
      have i2 : (k : Int) = gp[r].src := by omega
      rw [i1]
      rw [i2] at ha
      omega
  have hpp := okGraph_place hg (List.getElem_mem hq')
  obtain ⟨⟨s0, s1⟩, ⟨d0, d1⟩, _⟩ := hpp
  obtain ⟨s, hs⟩ := Int.eq_ofNat_of_zero_le s0
  obtain ⟨d, hd⟩ := Int.eq_ofNat_of_zero_le d0
  have hidx : idxCode (n : Int) gp (q : Int) = 0 := by
    unfold idxCode
    rw [if_pos hg, if_pos ((inB_iff _ _ _).2 ⟨by omega, by omega⟩)]
  have hz := tokB_zero (n := n) hq' hidx hs hd
  rw [hz] at hb ⊢
  split at hb
  · cases hb
  rename_i hneg
  rw [if_neg hneg]
  have hne : itF n (tokF gp) n s d ≠ bot := by
    intro e
    unfold distD at hneg
    rw [if_pos e] at hneg
    omega
  obtain ⟨b, hb2, hle⟩ := it_le2 hsub d (by omega) _ rfl n s (by omega) hne
  injection hb2 with hb2
  have hdd : distD n gp d s = - itF n (tokF gp) n s d := by unfold distD; rw [if_neg hne]
  have hq2 := hall q hq'
  rw [List.getD_eq_getElem?_getD, List.getElem?_eq_getElem hq, Option.getD_some, hs, hd] at hq2
  show m[q] ≤ gp[q].tokens + distD n gp d s
  omega
end Go.Proofs.Ytkbhbmoogkjafaa
