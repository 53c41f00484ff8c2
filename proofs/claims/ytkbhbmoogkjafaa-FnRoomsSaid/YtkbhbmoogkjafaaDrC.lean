/-
  The walk of the draw of a graph and counts.
-/
import Derived.Test.YtkbhbmoogkjafaaDrB
namespace Go.Proofs.Ytkbhbmoogkjafaa
open Go.RowKit
set_option linter.unusedVariables false
set_option linter.unusedSimpArgs false
theorem blk_draw {W W' : World} {g b : Nat} {t : TypeId} {cs : Array Value} (h : Blk W b t cs) (ht : t ≠ 172) (hs : Src W g) (hN : Drawn W g W') : Blk W' b t cs := by
  obtain ⟨ds, hd⟩ := hs.blk
  exact h.grown hN.2 (fun e => blk_ne h hd ht (by injection e))
theorem own_draw {α : Type} {f : α → List Value} {size base : Nat} {e : TypeId} {W W' : World} {g : Nat} {v : Value} {l : List α} (h : Own f size e W base v l) (ht : e ≠ 172) (hs : Src W g) (hN : Drawn W g W') : Own f size e W' base v l := by
  obtain ⟨ds, hd⟩ := hs.blk
  exact own_kept (u := .slice (some ⟨g, 0, none⟩) 0 0) h hN.2 (fun k a b => h.ne_blk hd ht (by rw [a]; exact b.symm))
theorem own_ne_own {α β : Type} {f : α → List Value} {f' : β → List Value} {s s' b b' : Nat} {e e' : TypeId} {W : World} {v v' : Value} {l : List α} {l' : List β} (h1 : Own f s e W b v l) (h2 : Own f' s' e' W b' v' l') (hne : e ≠ e') :
    ∀ k, v.ownBlock = some k → v'.ownBlock = some k → False := by
  intro k a b
  rcases h2.2 with ⟨rfl, _⟩ | ⟨g, cap, cur, rfl, _, hg, _⟩
  · cases b
  · injection b with b
    subst b
    exact h1.ne_blk (t := e') (cs := cur) hg hne a
theorem below_draw {B g : Nat} {w W W' : World} (h : Below B w W) (hB : B ≤ W.heap.size) (hg : B ≤ g) (hN : Drawn W g W') : Below B w W' := h.grown hN.2 hB (fun k e => by injection e with e; omega)
end Go.Proofs.Ytkbhbmoogkjafaa
