/-
  More words on memory: blocks known whole beside rows of the call's own.
-/
import Derived.Test.YtpkkkigiiaegfaaStretch
namespace Go.Proofs.Ytpkkkigiiaegfaa
open Go.RowKit
set_option linter.unusedVariables false
set_option linter.unusedSimpArgs false

theorem Blk.newAt (w : World) {t : TypeId} {cs : Array Value} (g : Nat) (hg : w.heap.size = g) : Blk (w.alloc (.cells cs t)) g t cs := by
  subst hg
  exact Blk.new w t cs
/-- A row of another element type is not this block. -/
theorem Own.ne_blk {α : Type} {f : α → List Value} {size : Nat} {e t : TypeId} {w : World} {base g : Nat} {v : Value} {l : List α} {cs : Array Value} (h : Own f size e w base v l) (hb : Blk w g t cs) (hne : e ≠ t) : v.ownBlock ≠ some g := by
  intro hk
  rcases h.2 with ⟨rfl, _⟩ | ⟨g', cap, cur, rfl, _, hg, _⟩
  · cases hk
  · obtain rfl : g' = g := by injection hk
    unfold Blk at hb
    rw [hb] at hg
    injection hg with hg
    injection hg with _ h2 _
    exact hne h2.symm
theorem own_shape_n {α : Type} {f : α → List Value} {size : Nat} {e : TypeId} {w : World} {base n : Nat} {v : Value} {l : List α} (h : Own f size e w base v l) (hn : l.length = n) : ∃ A cap, v = .slice A n cap := by
  subst hn
  exact h.shape
end Go.Proofs.Ytpkkkigiiaegfaa
