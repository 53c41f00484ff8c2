/-
  The walk of the draw of a graph and counts.
-/
import Derived.Test.YtcoomogabicfnaaGreatDoorDrA
namespace Go.Proofs.YtcoomogabicfnaaGreatDoor
open Go.RowKit
set_option linter.unusedVariables false
set_option linter.unusedSimpArgs false
theorem Dr.tok {w0 W : World} {g b2 bg bo n c : Nat} {ge : Int} {gp : List Place} (h : Dr w0 g b2 bg W ge (.slice (some ⟨bo, 0, none⟩) n c) gp) (k : Nat) (hk : k < gp.length) (t : Int) :
    Dr w0 g b2 bg (W.setCell ⟨bo, k * 4 + 3, none⟩ (.int .i64 t)) ge (.slice (some ⟨bo, 0, none⟩) n c) (gp.set k ⟨gp[k].src, gp[k].dst, gp[k].delay, t⟩) := by
  have hg := h.hg
  have hb := (h.own.lt bo rfl).1
  have hr : bo ≠ b2 := fun e => h.own.ne_blk h.res (by decide) (by rw [e]; rfl)
  have hx : bo ≠ bg := fun e => h.own.ne_blk h.box (by decide) (by rw [e]; rfl)
  refine ⟨h.src.kept (grown_setC W ⟨bo, k * 4 + 3, none⟩ _) (fun k e => by injection e with e; simp only at e; omega), ?_, h.res.far (p := ⟨bo, k * 4 + 3, none⟩) (Ne.symm hr) _, h.box.far (p := ⟨bo, k * 4 + 3, none⟩) (Ne.symm hx) _,
    h.own.put Place.cells_len k 3 hk (by omega) ⟨gp[k].src, gp[k].dst, gp[k].delay, t⟩ (.int .i64 t) rfl (k * 4 + 3) (by omega), h.hb2, h.hbg, h.hne, hg⟩
  have hG := h.grown
  exact ⟨hG.os, hG.tape, hG.output, by simpa [World.setCell] using hG.size, fun i hi hne => (Below.heap_setCell W ⟨bo, k * 4 + 3, none⟩ _ i (by simp only; omega)).trans (hG.block i hi hne)⟩
end Go.Proofs.YtcoomogabicfnaaGreatDoor
namespace Go.Proofs.YtcoomogabicfnaaGreatDoor
open Go.RowKit
set_option linter.unusedVariables false
set_option linter.unusedSimpArgs false
end Go.Proofs.YtcoomogabicfnaaGreatDoor
