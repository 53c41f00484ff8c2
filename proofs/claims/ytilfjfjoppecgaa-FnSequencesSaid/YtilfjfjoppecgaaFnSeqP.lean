/-
  A sequence for counts fires each event as often as told: plain Lean, no program in sight.
-/
import Derived.Test.YtilfjfjoppecgaaSeqP
namespace Go.Proofs.Ytilfjfjoppecgaa
open Go.RowKit
set_option linter.unusedVariables false
set_option linter.unusedSimpArgs false
/-- One less of each event of a list. -/
def dec1 (l : List Int) (x : Int) : List Int := l.set x.toNat (l.getD x.toNat 0 - 1)
def decL (l : List Int) (T : List Int) : List Int := T.foldl dec1 l
theorem dec1_len (l : List Int) (x : Int) : (dec1 l x).length = l.length := by simp [dec1]
theorem decL_len (l T : List Int) : (decL l T).length = l.length := by
  induction T generalizing l with
  | nil => rfl
  | cons x T ih => show (decL (dec1 l x) T).length = _; rw [ih, dec1_len]
theorem decL_snoc (l T : List Int) (k : Nat) (h : k < T.length) : decL l (T.take (k + 1)) = dec1 (decL l (T.take k)) T[k] := by
  unfold decL
  rw [take_succ_get _ _ h, List.foldl_append]
  rfl
theorem decL_bd : ∀ (T l : List Int) (lo : Int), (∀ x ∈ l, lo ≤ x ∧ x ≤ 100) → ∀ x ∈ decL l T, lo - T.length ≤ x ∧ x ≤ 100 := by
  intro T
  induction T with
  | nil => intro l lo h x hx; have := h x hx; simp; exact this
  | cons y T ih =>
    intro l lo h x hx
    have h1 := ih (dec1 l y) (lo - 1) (fun z hz => by
      unfold dec1 at hz
      rcases List.mem_or_eq_of_mem_set hz with hz | rfl
      · have := h z hz; omega
      · by_cases hi : y.toNat < l.length
        · have e1 : l.getD y.toNat 0 = l[y.toNat] := by simp [List.getD, List.getElem?_eq_getElem hi]
          have := h _ (List.getElem_mem hi)
          omega
        · rw [List.set_eq_of_length_le (by omega)] at hz
          have := h _ hz
          omega) x hx
    simp only [List.length_cons]
    omega
theorem sumI_zero {l : List Int} (h : ∀ x ∈ l, 0 ≤ x) (hs : sumI l ≤ 0) : ∀ x ∈ l, x = 0 := by
  induction l with
  | nil => simp
  | cons a l ih =>
    have h1 : 0 ≤ a := h a (by simp)
    have h2 : 0 ≤ sumI l := by
      clear ih hs
      have : ∀ l : List Int, (∀ x ∈ l, 0 ≤ x) → 0 ≤ sumI l := by
        intro l
        induction l with
        | nil => simp [sumI]
        | cons b l ih => intro h; have := h b (by simp); have := ih (fun x hx => h x (by simp [hx])); simp only [sumI]; omega
      exact this l (fun x hx => h x (by simp [hx]))
    simp only [sumI] at hs
    intro x hx
    rcases List.mem_cons.1 hx with rfl | hx
    · omega
    · exact ih (fun x hx => h x (by simp [hx])) (by omega) x hx
theorem getD_set_self {l : List Int} {i : Nat} (x : Int) (h : i < l.length) : (l.set i x).getD i 0 = x := by simp [List.getD, h]
theorem getD_set_other {l : List Int} {i j : Nat} (x : Int) (h : i ≠ j) : (l.set i x).getD j 0 = l.getD j 0 := by simp [List.getD, List.getElem?_set_ne h]
theorem sf_all {n : Nat} {gp : List Place} (hg : okGraph n gp = true) : ∀ (f : Nat) (left m out L : List Int), LeftOk n left → okMarking gp m = true → (sumI left).toNat = f → sfF n gp f left m out = (L, 0) →
    ∃ T M, L = out ++ T ∧ seqF n gp m T = (M, 0) ∧ (∀ x ∈ T, 0 ≤ x ∧ x < (n : Int)) ∧ T.length = f ∧ (∀ x ∈ decL left T, x = 0) ∧ M.length = gp.length ∧
      ∀ i (h1 : i < gp.length) (h2 : i < M.length), M[i] = m.getD i 0 + left.getD gp[i].src.toNat 0 - left.getD gp[i].dst.toNat 0 := by
  intro f
  induction f with
  | zero =>
    intro left m out L hl hm hs h
    simp only [sfF, Prod.mk.injEq] at h
    have hz := sumI_zero (fun x hx => (hl.bd x hx).1) (by omega)
    have hml := okMarking_len hm
    have hget : ∀ i, left.getD i 0 = 0 := by
      intro i
      by_cases hi : i < left.length
      · rw [List.getD, List.getElem?_eq_getElem hi]; exact hz _ (List.getElem_mem hi)
      · simp [List.getD, List.getElem?_eq_none (Nat.le_of_not_lt hi)]
    exact ⟨[], m, by rw [← h.1]; simp, rfl, by simp, rfl, hz, hml, fun i h1 h2 => by rw [hget, hget]; simp [List.getD, List.getElem?_eq_getElem h2]⟩
  | succ f ih =>
    intro left m out L hl hm hs h
    have hml := okMarking_len hm
    simp only [sfF] at h
    cases hp : pickF n gp left m with
    | none => rw [hp] at h; simp at h
    | some e =>
      rw [hp] at h
      simp only at h
      obtain ⟨he, hpos, hen⟩ := pick_in hp
      have hel : e < left.length := by rw [hl.len]; exact he
      by_cases hok : okMarking gp (fireM gp m e) = false
      · rw [if_pos hok] at h; simp at h
      · rw [if_neg hok] at h
        have hok' : okMarking gp (fireM gp m e) = true := by simpa using hok
        have hs2 := sumI_set left e (left.getD e 0 - 1) hel
        obtain ⟨T, M, h1, h2, h3, h4, h5, h6, h7⟩ := ih _ _ _ _ (hl.step e hpos) hok' (by omega) h
        have hfd : firedF n gp m (e : Int) = (fireM gp m e, 0) := by
          unfold firedF
          have hi : inB (e : Int) 0 ((n : Int) - 1) = true := (inB_iff _ _ _).2 (by omega)
          rw [if_neg (by rw [hi, hen]; simp), if_neg hok]
        refine ⟨(e : Int) :: T, M, by rw [h1]; simp, ?_, ?_, by simp [h4], ?_, h6, fun i q1 q2 => ?_⟩
        · simp only [seqF, hfd, if_true]
          exact h2
        · intro x hx
          rcases List.mem_cons.1 hx with rfl | hx
          · omega
          · exact h3 x hx
        · show ∀ x ∈ decL (dec1 left e) T, x = 0
          have : dec1 left (e : Int) = left.set e (left.getD e 0 - 1) := by simp [dec1]
          rw [this]
          exact h5
        · rw [h7 i q1 q2]
          have hb := okGraph_place hg (List.getElem_mem q1)
          have him : i < m.length := by omega
          have e1 : (fireM gp m e).getD i 0 = fire1 gp[i] (m.getD i 0) e := by
            have hlf := fireM_len gp m e hml
            rw [List.getD, List.getElem?_eq_getElem (by omega)]
            simp [List.getD, List.getElem?_eq_getElem him, fireM_get gp m e i q1 him (by omega)]
          obtain ⟨s, hs0⟩ := Int.eq_ofNat_of_zero_le hb.1.1
          obtain ⟨d, hd0⟩ := Int.eq_ofNat_of_zero_le hb.2.1.1
          rw [e1]
          unfold fire1
          rw [hs0, hd0, Int.toNat_natCast, Int.toNat_natCast]
          by_cases q3 : s = e
          · subst q3
            rw [getD_set_self _ hel]
            by_cases q4 : d = s
            · subst q4; rw [getD_set_self _ hel]; simp <;> omega
            · rw [getD_set_other _ (Ne.symm q4)]
              have : ¬ (d : Int) = (s : Int) := by omega
              simp [this]; omega
          · rw [getD_set_other _ (Ne.symm q3)]
            have hse : ¬ (s : Int) = (e : Int) := by omega
            by_cases q4 : d = e
            · subst q4; rw [getD_set_self _ hel]; simp [hse]; omega
            · rw [getD_set_other _ (Ne.symm q4)]
              have : ¬ (d : Int) = (e : Int) := by omega
              simp [this, hse]
/-- What the law asks of a sequence. -/
theorem seqFor_law {ge : Int} {gp : List Place} {l L : List Int} (h : seqForF ge gp l = (L, 0)) :
    ∃ M, fireSeqF ge gp L = (M, 0) ∧ okGraph ge gp = true ∧ ((l.length : Int) = ge) ∧ (∀ x ∈ l, 0 ≤ x ∧ x ≤ 100) ∧ L.length ≤ 100 ∧ (∀ x ∈ L, 0 ≤ x ∧ x < ge) ∧ (∀ x ∈ decL l L, x = 0) ∧ M.length = gp.length ∧
      ∀ i (h1 : i < gp.length) (h2 : i < M.length), M[i] = gp[i].tokens + l.getD gp[i].src.toNat 0 - l.getD gp[i].dst.toNat 0 := by
  cases hg : okGraph ge gp
  · simp [seqForF, hg] at h
  · obtain ⟨hge1, hge2⟩ := okGraph_ev hg
    obtain ⟨n, rfl⟩ := Int.eq_ofNat_of_zero_le (show 0 ≤ ge by omega)
    cases hc : (decide ((l.length : Int) = (n : Int)) && allB l 0 100 && decide (sumI l ≤ 100))
    · unfold seqForF at h
      rw [hg, hc] at h
      simp at h
    · obtain ⟨e1, hl, hsum⟩ := seqForF_go hg hc
      rw [e1] at h
      obtain ⟨T, M, h1, h2, h3, h4, h5, h6, h7⟩ := sf_all hg _ _ _ _ _ hl (firstF_ok hg) rfl h
      rw [List.nil_append] at h1
      subst h1
      have h0 := sumI_bd l hl.bd
      refine ⟨M, ?_, rfl, by rw [hl.len], hl.bd, by omega, h3, h5, h6, fun i q1 q2 => ?_⟩
      · unfold fireSeqF
        have hb : (decide (L.length ≤ 100) && allB L 0 ((n : Int) - 1)) = true := by
          simp only [Bool.and_eq_true, decide_eq_true_eq, allB, List.all_eq_true, inB_iff]
          exact ⟨by omega, fun x hx => by have := h3 x hx; omega⟩
        rw [hg, hb, Int.toNat_natCast]
        exact h2
      · rw [h7 i q1 q2]
        simp [firstF, List.getD, List.getElem?_eq_getElem q1]
end Go.Proofs.Ytilfjfjoppecgaa
