/-
  The marking after a run, in plain Lean: an event can go on if and only if each of its places has a token.
-/
import Derived.Test.YtlppfcamlggcnaaDoorRunP
import Derived.Test.YtlppfcamlggcnaaDoorSeq
namespace Go.Proofs.YtlppfcamlggcnaaDoor
open Go.RowKit
set_option linter.unusedVariables false
set_option linter.unusedSimpArgs false

/-- The tokens of each place when each event e has fired as often as T e is long. -/
def markT (gp : List Place) (T : Int → List Int) : List Int := gp.map fun p => p.tokens + (T p.src).length - (T p.dst).length
theorem markT_len (gp : List Place) (T : Int → List Int) : (markT gp T).length = gp.length := by simp [markT]
theorem markT_get (gp : List Place) (T : Int → List Int) (k : Nat) (h : k < gp.length) (h2 : k < (markT gp T).length) : (markT gp T)[k] = gp[k].tokens + (T gp[k].src).length - (T gp[k].dst).length := by simp [markT]
theorem readyS_enK {ge : Int} {gp : List Place} (hok : okGraph ge gp = true) (T : Int → List Int) (e : Int) : ∀ k, k ≤ gp.length → (readyS (gp.take k) T e).isSome = enK gp (markT gp T) e k := by
  intro k
  induction k with
  | zero => intro _; rfl
  | succ k ih =>
    intro hk
    have h1 := ih (by omega)
    have hlt : k < gp.length := by omega
    have hp := okGraph_place hok (List.getElem_mem hlt)
    rw [readyS_succ _ _ _ _ hlt, enK_succ _ _ _ _ hlt (by rw [markT_len]; exact hlt), markT_get _ _ _ hlt, ← h1]
    cases hr : readyS (gp.take k) T e with
    | none => simp [stepR]
    | some t =>
      simp only [stepR, Option.bind_some, Option.isSome_some, Bool.true_and]
      by_cases hd : gp[k].dst = e
      · by_cases ht : ((T e).length : Int) + 1 ≤ gp[k].tokens
        · rw [if_pos (.inr ht)]
          simp only [Option.isSome_some]
          symm
          simp only [hd, Bool.or_eq_true, decide_eq_true_eq]
          right
          omega
        · rw [if_neg (by rintro (h | h); exact h hd; exact ht h)]
          by_cases hm : (T gp[k].src).length < (T e).length + 1 - gp[k].tokens.toNat
          · rw [if_pos hm]
            simp [hd]
            omega
          · rw [if_neg hm]
            simp [hd]
            omega
      · rw [if_pos (.inl hd)]
        simp [hd]
theorem readyS_enB {ge : Int} {gp : List Place} (hok : okGraph ge gp = true) (T : Int → List Int) (e : Int) : (readyS gp T e).isSome = enB gp (markT gp T) e := by
  have := readyS_enK hok T e gp.length (Nat.le_refl _)
  rw [List.take_length] at this
  exact this
def afterF (ge : Int) (gp : List Place) (l : List Firing) : List Int × Int :=
  if okGraph ge gp = false then ([], 1) else if isRunF ge gp l = false then ([], 2) else (markT gp (timesIn l), 0)
theorem afterF_len (ge : Int) (gp : List Place) (l : List Firing) : (afterF ge gp l).1.length ≤ 1048576 := by
  unfold afterF
  cases hg : okGraph ge gp
  · simp
  · have := okGraph_len hg
    cases hm : isRunF ge gp l
    · simp
    · simp only [Bool.true_eq_false, if_false, markT_len]
      omega
def nextsF (ge : Int) (gp : List Place) (l : List Firing) : List Int × Int :=
  if okGraph ge gp = false then ([], 1) else if isRunF ge gp l = false then ([], 2) else (enL gp (markT gp (timesIn l)) ge.toNat, 0)
theorem nextsF_len (ge : Int) (gp : List Place) (l : List Firing) : (nextsF ge gp l).1.length ≤ 1048576 := by
  unfold nextsF
  cases hg : okGraph ge gp
  · simp
  · have := okGraph_ev hg
    cases hm : isRunF ge gp l
    · simp
    · simp only [Bool.true_eq_false, if_false]
      have := enL_len gp (markT gp (timesIn l)) ge.toNat
      omega
theorem runK_ok {ge : Int} {gp : List Place} {l : List Firing} : ∀ k, k ≤ l.length → runK ge gp l k = true → RunOk ge (l.take k) := by
  intro k
  induction k with
  | zero => intro _ _; exact RunOk.nil ge
  | succ k ih =>
    intro hk h
    rw [runK_succ _ _ _ _ (by omega)] at h
    simp only [Bool.and_eq_true] at h
    rw [take_succ_get _ _ (by omega)]
    exact (ih (by omega) h.1).snoc h.2
theorem isRunF_ok {ge : Int} {gp : List Place} {l : List Firing} (h : isRunF ge gp l = true) : RunOk ge l ∧ l.length ≤ 500 := by
  unfold isRunF at h
  simp only [Bool.and_eq_true, decide_eq_true_eq] at h
  have := runK_ok (ge := ge) (gp := gp) l.length (Nat.le_refl _) h.2
  rw [List.take_length] at this
  exact ⟨this, h.1.2⟩
end Go.Proofs.YtlppfcamlggcnaaDoor
