/-
  The walk of the draw of a graph and counts.
-/
import Derived.Test.YtlppfcamlggcnaaDoorDrA
namespace Go.Proofs.YtlppfcamlggcnaaDoor
open Go.RowKit
set_option linter.unusedVariables false
set_option linter.unusedSimpArgs false
theorem Dr.tok {w0 W : World} {g b2 bg bo n c : Nat} {ge : Int} {gp : List Place} (h : Dr w0 g b2 bg W ge (.slice (some ⟨bo, 0, none⟩) n c) gp) (k : Nat) (hk : k < gp.length) (t : Int) :
    Dr w0 g b2 bg (W.setCell ⟨bo, k * 4 + 3, none⟩ (.int .i64 t)) ge (.slice (some ⟨bo, 0, none⟩) n c) (gp.set k ⟨gp[k].src, gp[k].dst, gp[k].delay, t⟩) := by
  have hg := h.hg
  have hb := (h.own.lt bo rfl).1
  have hr : bo ≠ b2 := fun e => h.own.ne_blk h.res (by decide) (by rw [e]; rfl)
  have hx : bo ≠ bg := fun e => h.own.ne_blk h.box (by decide) (by rw [e]; rfl)
  refine ⟨h.src.kept (grown_setC W ⟨bo, k * 4 + 3, none⟩ _) (fun k e => by injection e with e; simp only at e; omega), ?_, h.res.far (p := ⟨bo, k * 4 + 3, none⟩) (Ne.symm hr) _, h.box.far (p := ⟨bo, k * 4 + 3, none⟩) (Ne.symm hx) _,
    h.own.put Place.cells_len k 3 hk (by omega) ⟨gp[k].src, gp[k].dst, gp[k].delay, t⟩ (.int .i64 t) rfl (k * 4 + 3) (by omega), h.hb2, h.hbg, h.hne, hg⟩
  have hG := h.grown
  exact ⟨hG.os, hG.tape, hG.output, by simpa [World.setCell] using hG.size, fun i hi hne => (Below.heap_setCell W ⟨bo, k * 4 + 3, none⟩ _ i (by simp only; omega)).trans (hG.block i hi hne)⟩
end Go.Proofs.YtlppfcamlggcnaaDoor
namespace Go.Proofs.YtlppfcamlggcnaaDoor
open Go.RowKit
set_option linter.unusedVariables false
set_option linter.unusedSimpArgs false
theorem blk_draw {W W' : World} {g b : Nat} {t : TypeId} {cs : Array Value} (h : Blk W b t cs) (ht : t ≠ 113) (hs : Src W g) (hN : Drawn W g W') : Blk W' b t cs := by
  obtain ⟨ds, hd⟩ := hs.blk
  exact h.grown hN.2 (fun e => blk_ne h hd ht (by injection e))
theorem own_draw {α : Type} {f : α → List Value} {size base : Nat} {e : TypeId} {W W' : World} {g : Nat} {v : Value} {l : List α} (h : Own f size e W base v l) (ht : e ≠ 113) (hs : Src W g) (hN : Drawn W g W') : Own f size e W' base v l := by
  obtain ⟨ds, hd⟩ := hs.blk
  exact own_kept (u := .slice (some ⟨g, 0, none⟩) 0 0) h hN.2 (fun k a b => h.ne_blk hd ht (by rw [a]; exact b.symm))
theorem own_ne_own {α β : Type} {f : α → List Value} {f' : β → List Value} {s s' b b' : Nat} {e e' : TypeId} {W : World} {v v' : Value} {l : List α} {l' : List β} (h1 : Own f s e W b v l) (h2 : Own f' s' e' W b' v' l') (hne : e ≠ e') :
    ∀ k, v.ownBlock = some k → v'.ownBlock = some k → False := by
  intro k a b
  rcases h2.2 with ⟨rfl, _⟩ | ⟨g, cap, cur, rfl, _, hg, _⟩
  · cases b
  · injection b with b
    subst b
    exact h1.ne_blk (t := e') (cs := cur) hg hne a
theorem below_draw {B g : Nat} {w W W' : World} (h : Below B w W) (hB : B ≤ W.heap.size) (hg : B ≤ g) (hN : Drawn W g W') : Below B w W' := h.grown hN.2 hB (fun k e => by injection e with e; omega)
end Go.Proofs.YtlppfcamlggcnaaDoor
