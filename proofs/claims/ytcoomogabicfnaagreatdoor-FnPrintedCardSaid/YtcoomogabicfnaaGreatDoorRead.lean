/-
  Runs read from texts, the reference's side.
-/
import Derived.Test.YtcoomogabicfnaaGreatDoorSplit
import Derived.Test.YtcoomogabicfnaaGreatDoorRunS
namespace Go.Proofs.YtcoomogabicfnaaGreatDoor
open Go.RowKit
set_option linter.unusedVariables false
set_option linter.unusedSimpArgs false
theorem own_apart {α β : Type} {f : α → List Value} {f' : β → List Value} {s s' b b' : Nat} {e e' : TypeId} {W : World} {v v' : Value} {l : List α} {l' : List β} (h1 : Own f s e W b v l) (h2 : Own f' s' e' W b' v' l') (hne : e ≠ e') :
    ∀ k, v.ownBlock = some k → v'.ownBlock = some k → False := by
  intro k a b
  rcases h2.2 with ⟨rfl, _⟩ | ⟨g, cap, cur, rfl, _, hg, _⟩
  · cases b
  · injection b with b
    subst b
    exact h1.ne_blk (t := e') (cs := cur) hg hne a
theorem size_empty {s : ByteArray} (h : s.size = 0) : s = ⟨#[]⟩ := by
  apply bext
  rw [List.eq_nil_of_length_eq_zero (l := s.data.toList) (by rw [← bsize]; exact h)]
theorem ne_empty2 {s : ByteArray} (h : ¬ s.size = 0) : s.toList.isEmpty = false := by
  cases hl : s.toList with
  | nil =>
    have : s = ⟨#[]⟩ := str_inj (hl.trans (by decide +kernel : ([] : List UInt8) = (⟨#[]⟩ : ByteArray).toList))
    rw [this] at h
    exact absurd rfl h
  | cons a l => rfl
theorem ne_empty {s : ByteArray} (h : ¬ s.size = 0) : (s.toList == (⟨#[]⟩ : ByteArray).toList) = false := str_bne (fun e => h (by rw [e]; rfl))
theorem split_size (c : UInt8) (s : ByteArray) : ∀ x ∈ splitF c s, x.size ≤ s.size := by
  have key : ∀ (l : List UInt8), ∀ x ∈ cutAt c l, x.length ≤ l.length := by
    intro l
    induction l with
    | nil => intro x hx; simp [cutAt] at hx; simp [hx]
    | cons b l ih =>
      intro x hx
      simp only [cutAt] at hx
      split at hx
      · rcases List.mem_cons.1 hx with rfl | hx
        · simp
        · have := ih x hx
          simp; omega
      · cases h : cutAt c l with
        | nil => exact absurd h (cutAt_ne c l)
        | cons a t =>
          rw [h] at hx ih
          rcases List.mem_cons.1 hx with rfl | hx
          · have := ih a (by simp)
            simp; omega
          · have := ih x (by simp [hx])
            simp; omega
  intro x hx
  have h1 : x.data.toList ∈ cutAt c s.data.toList := by
    rw [← splitF_data]
    exact List.mem_map.2 ⟨x, hx, rfl⟩
  have := key _ _ h1
  rwa [← bsize, ← bsize] at this
end Go.Proofs.YtcoomogabicfnaaGreatDoor
