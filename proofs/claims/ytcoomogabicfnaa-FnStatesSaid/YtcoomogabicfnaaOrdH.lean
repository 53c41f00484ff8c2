/-
  The firing order, the reference's.
-/
import Derived.Test.YtcoomogabicfnaaOrdG
namespace Go.Proofs.Ytcoomogabicfnaa
open Go.RowKit
set_option linter.unusedVariables false
set_option linter.unusedSimpArgs false

theorem hasI_contains (o : List Int) (x : Int) : hasI o x = o.contains x := by
  rw [Bool.eq_iff_iff, hasI_iff]
  simp
/-- Whether an event is ready, as far as the first k events have been looked at. -/
def rdK (F : Nat → Nat → Int) (o : List Int) (e k : Nat) : Bool := !hasI o e && (List.range k).all fun x => decide (F e x = bot) || hasI o (x : Int)
theorem rdK_zero (F : Nat → Nat → Int) (o : List Int) (e : Nat) : rdK F o e 0 = !hasI o e := by simp [rdK]
theorem rdK_succ (F : Nat → Nat → Int) (o : List Int) (e k : Nat) : rdK F o e (k + 1) = (rdK F o e k && (decide (F e k = bot) || hasI o (k : Int))) := by
  unfold rdK
  rw [List.range_succ, List.all_append, Bool.and_assoc]
  simp
theorem rdK_all {n : Nat} {gp : List Place} (hok : okGraph n gp = true) (o : List Int) (e : Nat) : rdK (freeF gp) o e n = readyO gp o (e : Int) := by
  unfold rdK readyO waitsO
  rw [hasI_contains]
  congr 1
  rw [Bool.eq_iff_iff]
  simp only [List.all_eq_true, Bool.not_eq_true', List.any_eq_false]
  constructor
  · intro h p hp hq
    simp only [Bool.and_eq_true, beq_iff_eq, Bool.not_eq_true'] at hq
    have hr := okGraph_place hok hp
    have h1 := h p.src.toNat (List.mem_range.2 (by omega))
    rcases freeF_arc hok e p.src.toNat with ⟨_, h2⟩ | ⟨h2, _⟩
    · rw [h2] at h1
      have h3 : hasI o ((p.src.toNat : Nat) : Int) = true := by simpa [bot] using h1
      rw [show ((p.src.toNat : Nat) : Int) = p.src by omega, hasI_contains] at h3
      rw [hq.2] at h3
      cases h3
    · exact h2 ⟨p, hp, by omega, hq.1.1, hq.1.2⟩
  · intro h x hx
    rcases freeF_arc hok e x with ⟨⟨p, hp, h1, h2, h3⟩, _⟩ | ⟨_, h2⟩
    · have h4 := h p hp
      have h5 : o.contains p.src = true := by
        cases hc : o.contains p.src
        · exact absurd (by simp [h2, h3]; simpa using hc) h4
        · rfl
      rw [h1] at h5
      simp only [Bool.or_eq_true]
      right
      rw [hasI_contains]
      exact h5
    · simp [h2]
theorem nextO_hit {n : Nat} {gp : List Place} {o : List Int} {j : Nat} (hj : j < n) (hN : ∀ x, x < j → readyO gp o (x : Int) = false) (hr : readyO gp o (j : Int) = true) : nextO n gp o = some j := by
  unfold nextO
  rw [List.find?_range_eq_some]
  exact ⟨by simpa using hr, List.mem_range.2 hj, fun x hx => by simpa using hN x hx⟩
theorem nextO_miss {n : Nat} {gp : List Place} {o : List Int} (hN : ∀ x, x < n → readyO gp o (x : Int) = false) : nextO n gp o = none := by
  unfold nextO
  rw [List.find?_eq_none]
  intro x hx
  simp [hN x (List.mem_range.1 hx)]
theorem orderK_go {n : Nat} {gp : List Place} {o : List Int} {k j : Nat} (h : orderK n gp k = some o) (hx : nextO n gp o = some j) : orderK n gp (k + 1) = some (o ++ [(j : Int)]) := by
  simp only [orderK, h, Option.bind_some, hx]
  rfl
theorem orderK_stuck {n : Nat} {gp : List Place} {o : List Int} {k : Nat} (hk : k < n) (h : orderK n gp k = some o) (hx : nextO n gp o = none) : orderF n gp = none := by
  refine orderK_none (k + 1) n ?_ hk
  simp only [orderK, h, Option.bind_some, hx]
  rfl
def lenV : Value → Nat
  | .slice _ n _ => n
  | _ => 0
end Go.Proofs.Ytcoomogabicfnaa
