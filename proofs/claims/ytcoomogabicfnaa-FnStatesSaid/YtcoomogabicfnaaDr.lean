/-
  The walk of the draw of a graph.
-/
import Derived.Test.YtcoomogabicfnaaSrc
import Derived.Test.YtcoomogabicfnaaMat
namespace Go.Proofs.Ytcoomogabicfnaa
open Go.RowKit
set_option linter.unusedVariables false
set_option linter.unusedSimpArgs false
section
variable {P : Program} {ops : Array Oper} {Q : Exit → Act → World → Prop} {md : Region.Mode} {S : World → Prop} {fin : Nat}
/-- Two operations may come up. -/
theorem wpAnyE_two {i j : Nat} {oi oj : Oper} {n : Nat} {listed : Array Bool} {a : Act} {w : World} (hi : ops[i]? = some oi) (hj : ops[j]? = some oj) (hr : Region.ready md ops listed = [i, j])
    (h1 : ∀ K : Act → World → Prop, Shut (∀ a w, (i ≠ fin → S w) → wpAnyE P md ops Q S fin n (listed.setIfInBounds i true) a w → K a w) → if Region.wanted oi (yielded ops a.tmps) = true then Oper.wp P oi a w K Q else K (a.put oi.dst undef) w)
    (h2 : ∀ K : Act → World → Prop, Shut (∀ a w, (j ≠ fin → S w) → wpAnyE P md ops Q S fin n (listed.setIfInBounds j true) a w → K a w) → if Region.wanted oj (yielded ops a.tmps) = true then Oper.wp P oj a w K Q else K (a.put oj.dst undef) w) :
    wpAnyE P md ops Q S fin (n + 1) listed a w :=
  ⟨fun h0 => (by rw [hr] at h0; cases h0), fun k hk => by
    rw [hr] at hk
    rcases List.mem_cons.1 hk with rfl | hk
    · exact wpOp_step hi fun K hK => h1 K fun a w h1 h2 => hK a w ⟨h1, h2⟩
    · obtain rfl := List.mem_singleton.1 hk
      exact wpOp_step hj fun K hK => h2 K fun a w h1 h2 => hK a w ⟨h1, h2⟩⟩
end
/-- A graph that is being drawn: its box bg, the result's box b2, the source g. -/
structure Dr (w0 : World) (g b2 bg : Nat) (W : World) (ge : Int) (v : Value) (gp : List Place) : Prop where
  src : Src W g
  grown : w0.grownBy W (some g)
  res : Blk W b2 26 #[.int .i64 0, .slice none 0 0]
  box : Blk W bg 26 #[.int .i64 ge, v]
  own : Own Place.cells 4 46 W w0.heap.size v gp
  hb2 : w0.heap.size ≤ b2
  hbg : w0.heap.size ≤ bg
  hne : b2 ≠ bg
  hg : g < w0.heap.size
section
variable {w0 W W' : World} {g b2 bg : Nat} {ge : Int} {v : Value} {gp : List Place}
theorem Dr.evs (h : Dr w0 g b2 bg W ge v gp) : W.cell? ⟨bg, 0, none⟩ = some (.int .i64 ge) := h.box.c2.1
theorem Dr.pls (h : Dr w0 g b2 bg W ge v gp) : W.cell? ⟨bg, 1, none⟩ = some v := h.box.c2.2
theorem Dr.draw (h : Dr w0 g b2 bg W ge v gp) (hN : Drawn W g W') : Dr w0 g b2 bg W' ge v gp := by
  have hg := h.hg
  have h2 := h.hb2
  have h3 := h.hbg
  exact ⟨hN.1, grown_trans h.grown hN.2, h.res.grown hN.2 (fun e => by injection e with e; omega), h.box.grown hN.2 (fun e => by injection e with e; omega),
    own_kept (u := .slice (some ⟨g, 0, none⟩) 0 0) h.own hN.2 (fun k a b => by have h4 := (h.own.lt k a).1; (have h5 : g = k := (by simpa [Value.ownBlock] using b)); omega), h2, h3, h.hne, hg⟩
theorem Dr.below (h : Dr w0 g b2 bg W ge v gp) (hb : Below W.heap.size W W') : Dr w0 g b2 bg W' ge v gp :=
  ⟨h.src.now hb, grown_trans h.grown (grown_of_below hb), h.res.now hb, h.box.now hb, h.own.now hb, h.hb2, h.hbg, h.hne, h.hg⟩
/-- A store into a block of the call's own that is none of these. -/
theorem Dr.other (h : Dr w0 g b2 bg W ge v gp) {p : Addr} (hp : w0.heap.size ≤ p.block) (h1 : p.block ≠ b2) (h2 : p.block ≠ bg) (h3 : v.ownBlock ≠ some p.block) (u : Value) : Dr w0 g b2 bg (W.setCell p u) ge v gp := by
  have hg := h.hg
  refine ⟨h.src.kept (grown_setC W p u) (fun k e => by injection e with e; omega), ?_, h.res.far (Ne.symm h1) u, h.box.far (Ne.symm h2) u, own_far h.own h3 u, h.hb2, h.hbg, h.hne, hg⟩
  have hG := h.grown
  exact ⟨hG.os, hG.tape, hG.output, by simpa [World.setCell] using hG.size, fun i hi hne => (Below.heap_setCell W p u i (by omega)).trans (hG.block i hi hne)⟩
/-- Events are changed. -/
theorem Dr.setE (h : Dr w0 g b2 bg W ge v gp) (ge' : Int) : Dr w0 g b2 bg (W.setCell ⟨bg, 0, none⟩ (.int .i64 ge')) ge' v gp := by
  have hg := h.hg
  have h2 := h.hbg
  have hneB := h.own.ne_blk h.box (by decide)
  refine ⟨h.src.kept (grown_setC W ⟨bg, 0, none⟩ _) (fun k e => by injection e with e; simp only at e; omega), ?_, h.res.far (p := ⟨bg, 0, none⟩) h.hne _, h.box.set2a, own_far h.own (p := ⟨bg, 0, none⟩) hneB _, h.hb2, h.hbg, h.hne, hg⟩
  have hG := h.grown
  exact ⟨hG.os, hG.tape, hG.output, by simpa [World.setCell] using hG.size, fun i hi hne => (Below.heap_setCell W ⟨bg, 0, none⟩ _ i (by simp only; omega)).trans (hG.block i hi hne)⟩
/-- The places have been appended to (from W to W'), and the longer list is laid into its field. -/
theorem Dr.app (h : Dr w0 g b2 bg W ge v gp) (hG : W.grownBy W' v.ownBlock) {v' : Value} {gp' : List Place} (hO : Own Place.cells 4 46 W' w0.heap.size v' gp') : Dr w0 g b2 bg (W'.setCell ⟨bg, 1, none⟩ v') ge v' gp' := by
  have hg := h.hg
  have h2 := h.hbg
  have h3 := h.hb2
  have hbox := h.box.grown hG (fun e => h.own.ne_blk h.box (by decide) e.symm)
  have hres := h.res.grown hG (fun e => h.own.ne_blk h.res (by decide) e.symm)
  have hsrc := h.src.kept hG (fun k e => by have := (h.own.lt k e).1; omega)
  have hneB := hO.ne_blk hbox (by decide)
  have h4 := grown_trans (a := w0) (r := some g) h.grown (b := W) (c := W) (World.grownBy.refl _ _)
  refine ⟨hsrc.kept (grown_setC W' ⟨bg, 1, none⟩ _) (fun k e => by injection e with e; simp only at e; omega), ?_, hres.far (p := ⟨bg, 1, none⟩) h.hne _, hbox.set2b, own_far hO (p := ⟨bg, 1, none⟩) hneB _, h.hb2, h.hbg, h.hne, hg⟩
  have hG0 := h.grown
  refine ⟨hG.os.trans hG0.os, hG.tape.trans hG0.tape, hG.output.trans hG0.output, by simpa [World.setCell] using Nat.le_trans hG0.size hG.size, fun i hi hne => ?_⟩
  refine (Below.heap_setCell W' ⟨bg, 1, none⟩ _ i (by simp only; omega)).trans ((hG.block i (Nat.lt_of_lt_of_le hi hG0.size) (fun e => ?_)).trans (hG0.block i hi hne))
  have := (h.own.lt i e.symm).1
  omega
theorem Dr.fin (h : Dr w0 g b2 bg W ge v gp) : Own Place.cells 4 46 ((W.setCell ⟨b2, 0, none⟩ (.int .i64 ge)).setCell ⟨b2, 1, none⟩ v) w0.heap.size v gp ∧ Drawn w0 g ((W.setCell ⟨b2, 0, none⟩ (.int .i64 ge)).setCell ⟨b2, 1, none⟩ v) := by
  have hg := h.hg
  have h2 := h.hb2
  have hneR := h.own.ne_blk h.res (by decide)
  refine ⟨own_far (own_far h.own (p := ⟨b2, 0, none⟩) hneR _) (p := ⟨b2, 1, none⟩) hneR _, (h.src.kept (grown_setC W ⟨b2, 0, none⟩ _) (fun k e => by injection e with e; simp only at e; omega)).kept (grown_setC _ ⟨b2, 1, none⟩ _) (fun k e => by injection e with e; simp only at e; omega), ?_⟩
  have hG := h.grown
  exact ⟨hG.os, hG.tape, hG.output, by simpa [World.setCell] using hG.size, fun i hi hne => (Below.heap_setCell _ ⟨b2, 1, none⟩ v i (by simp only; omega)).trans ((Below.heap_setCell W ⟨b2, 0, none⟩ _ i (by simp only; omega)).trans (hG.block i hi hne))⟩
end
end Go.Proofs.Ytcoomogabicfnaa
