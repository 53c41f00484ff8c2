/-
  The table of firing times: least, going up, and itself a table: plain Lean, no program in sight.
-/
import Derived.Test.YtkbhbmoogkjafaaFixP
import Derived.Test.YtkbhbmoogkjafaaHold
import Derived.Test.YtkbhbmoogkjafaaFTab
namespace Go.Proofs.Ytkbhbmoogkjafaa
open Go.RowKit
set_option linter.unusedVariables false
set_option linter.unusedSimpArgs false
theorem fixK_mono {gp : List Place} {G : Nat → Nat → Int} {k e : Nat} (h : ∀ p ∈ gp, p.dst = (e : Int) → p.tokens ≤ (k : Int) → G (k - p.tokens.toNat) p.src.toNat ≤ G (k + 1 - p.tokens.toNat) p.src.toNat) : ∀ m m', m ≤ m' → fixK gp G k e m ≤ fixK gp G (k + 1) e m' := by
  unfold fixK
  induction gp with
  | nil => intro m m' hm; exact hm
  | cons p gp ih =>
    intro m m' hm
    simp only [List.foldl_cons]
    refine ih (fun q hq => h q (by simp [hq])) _ _ ?_
    unfold stepK
    by_cases hc : p.dst = (e : Int) ∧ p.tokens ≤ (k : Int)
    · rw [if_pos hc, if_pos ⟨hc.1, by have := hc.2; omega⟩]
      have := h p (by simp) hc.1 hc.2
      omega
    · rw [if_neg hc]
      split
      · omega
      · exact hm
theorem tim_up {n N : Nat} {gp : List Place} {o : List Int} {ge : Int} (hge : ge = (n : Int)) (hok : okGraph ge gp = true) (hO : OrdOk n gp n o) : ∀ k, k + 1 < N → ∀ e, e < n → getT (timT gp o (zeros n) N) k e ≤ getT (timT gp o (zeros n) N) (k + 1) e := by
  have hz : ∀ b, (zeros n).getD b 0 = 0 := fun b => by
    unfold zeros
    simp only [List.getD, List.getElem?_replicate]
    split <;> rfl
  have hf : ∀ k e : Nat, k < N → e < n → getT (timT gp o (zeros n) N) k e = fixK gp (getT (timT gp o (zeros n) N)) k e 0 := fun k e hk he => by
    have := timT_fix (s := zeros n) hok hO (zeros_len n) N k e hk he
    rw [hz] at this
    exact this
  intro k
  induction k using Nat.strongRecOn with
  | ind k ih =>
    intro hk
    have key : ∀ i, ∀ (hi : i < o.length), ∀ e : Nat, o[i] = (e : Int) → e < n → getT (timT gp o (zeros n) N) k e ≤ getT (timT gp o (zeros n) N) (k + 1) e := by
      intro i
      induction i using Nat.strongRecOn with
      | ind i ihi =>
        intro hi e he hen
        rw [hf k e (by omega) hen, hf (k + 1) e hk hen]
        refine fixK_mono (fun p hp hd ht => ?_) 0 0 (Int.le_refl _)
        have hpp := okGraph_place hok hp
        have htk := hpp.2.2.2.1
        by_cases h0 : p.tokens = 0
        · have hm := hO.ord i hi p hp (by rw [hd, he]) h0
          obtain ⟨j, hj, hje⟩ := List.mem_iff_getElem.1 hm
          have hji : j < i := by simp at hj; omega
          rw [List.getElem_take] at hje
          have := ihi j hji (by omega) p.src.toNat (by rw [hje]; have := hpp.1.1; omega) (by have := hpp.1.2; omega)
          rw [h0]
          simpa using this
        · have h1 : k + 1 - p.tokens.toNat = k - p.tokens.toNat + 1 := by omega
          rw [h1]
          exact ih (k - p.tokens.toNat) (by omega) (by omega) p.src.toNat (by have := hpp.1.1; have := hpp.1.2; omega)
    intro e he
    obtain ⟨i, hi, hie⟩ := List.mem_iff_getElem.1 (hO.all e he)
    exact key i hi e hie he
/-- What the law asks. -/
theorem fir_law {ge N : Int} {gp : List Place} {X : List (List Int)} (h : timesF ge gp N = (X, 0)) :
    ∃ n m : Nat, ge = (n : Int) ∧ N = (m : Int) ∧ n ≤ 10 ∧ m ≤ 50 ∧ gp.length ≤ 30 ∧ (∀ p ∈ gp, (0 ≤ p.src ∧ p.src < (n : Int)) ∧ (0 ≤ p.dst ∧ p.dst < (n : Int)) ∧ (0 ≤ p.delay ∧ p.delay ≤ 1000) ∧ 0 ≤ p.tokens ∧ p.tokens ≤ 1000000) ∧
      X.length = m ∧ (∀ r ∈ X, r.length = n) ∧ (∀ a b : Nat, 0 ≤ getT X a b ∧ getT X a b ≤ 100000000) ∧ (∀ k e : Nat, k < m → e < n → getT X k e = fixK gp (getT X) k e 0) ∧ (∀ k e : Nat, k + 1 < m → e < n → getT X k e ≤ getT X (k + 1) e) ∧
      (∃ W, holdF ge gp N = (W, 0) ∧ ∀ x ∈ W, -1 ≤ x) ∧ isTab ge gp X = true := by
  unfold timesF at h
  split at h
  · rename_i hc
    obtain ⟨hg, hb, o, ho⟩ := timC_zero hc
    obtain ⟨h1, h2⟩ := okGraph_ev hg
    have hN := (inB_iff _ _ _).1 hb
    obtain ⟨n, rfl⟩ := Int.eq_ofNat_of_zero_le (show 0 ≤ ge by omega)
    obtain ⟨m, rfl⟩ := Int.eq_ofNat_of_zero_le hN.1
    simp only [Int.toNat_natCast] at ho h
    rw [ho] at h
    simp only [Option.getD_some] at h
    obtain rfl : timT gp o (zeros n) m = X := congrArg Prod.fst h
    have hO := orderK_ok n o ho
    have hTb := TabOk.times (c := 1000000) hg (okGraph_len hg) (o := o) (s := zeros n) (by have := hO.len; omega) (zeros_len n) (zeros_ok n) m
    have hz : ∀ b, (zeros n).getD b 0 = 0 := fun b => by
      unfold zeros
      simp only [List.getD, List.getElem?_replicate]
      split <;> rfl
    refine ⟨n, m, rfl, rfl, by omega, by omega, okGraph_len hg, fun p hp => ?_, hTb.len, hTb.row, fun a b => ?_, fun k e hk he => ?_, fun k e hk he => tim_up rfl hg hO k hk e he, ⟨holdL (timT gp o (zeros n) m) m gp, ?_, fun x hx => ?_⟩, ?_⟩
    · have := okGraph_place hg hp
      exact ⟨this.1, this.2.1, this.2.2.1, by have := this.2.2.2; omega⟩
    · have := hTb.get a b
      exact ⟨this.1, by omega⟩
    · have := timT_fix (s := zeros n) hg hO (zeros_len n) m k e hk he
      rw [hz] at this
      exact this
    · unfold holdF
      rw [if_pos hc]
      simp only [Int.toNat_natCast, ho, Option.getD_some]
    · unfold holdL at hx
      obtain ⟨p, hp, rfl⟩ := List.mem_map.1 hx
      exact (holdK_bd hTb p (okGraph_place hg hp).2.2.1.1 _).1
    · have hl : liveC (n : Int) gp = 0 := by
        simp [liveC, hg, ho]
      rw [isTab_eq hl (by rw [hTb.len]; omega) ho, hTb.len]
      exact decide_eq_true rfl
  · rename_i hc
    exact absurd (congrArg Prod.snd h) hc
end Go.Proofs.Ytkbhbmoogkjafaa
