/-
  The walk of the draw of a graph for reachable markings.
-/
import Derived.Test.YtbdklhahbeiffaaDrC
namespace Go.Proofs.Ytbdklhahbeiffaa
open Go.RowKit
set_option linter.unusedVariables false
set_option linter.unusedSimpArgs false
theorem own_take {α : Type} {f : α → List Value} {size : Nat} (hf : ∀ x, (f x).length = size) {e : TypeId} {w : World} {base n c : Nat} {A : Option Addr} {l : List α} (h : Own f size e w base (.slice A n c) l) (k : Nat) (hk : k ≤ l.length) : Own f size e w base (.slice A k c) (l.take k) := by
  have hl : (l.take k).length = k := by simp [hk]
  refine ⟨by rw [flat_len f size hf, hl], ?_⟩
  rcases h.2 with ⟨hv, h0⟩ | ⟨g, cap, cur, hv, hb, hg, h1, h2, h3, h4⟩
  · left
    injection hv with h5 h6 h7
    subst h5 h7
    have : k = 0 := by omega
    subst this
    exact ⟨rfl, by simp⟩
  · right
    injection hv with h5 h6 h7
    subst h5 h7
    refine ⟨g, c, cur, by rw [hl], hb, hg, by omega, h2, h3, ?_⟩
    rw [hl]
    have h5 : cur.toList.take (k * size) = (cur.toList.take (l.length * size)).take (k * size) := by
      rw [List.take_take, Nat.min_eq_left (Nat.mul_le_mul_right size hk)]
    rw [h5, h4]
    have h6 : (l.take k).flatMap f ++ (l.drop k).flatMap f = l.flatMap f := by rw [← List.flatMap_append, List.take_append_drop]
    rw [← h6]
    have h7 : ((l.take k).flatMap f).length = k * size := by rw [flat_len f size hf, hl]
    rw [← h7, List.take_left]
theorem own_cap {α : Type} {f : α → List Value} {size : Nat} {e : TypeId} {w : World} {base n c : Nat} {A : Option Addr} {l : List α} (h : Own f size e w base (.slice A n c) l) : l.length ≤ c := by
  rcases h.2 with ⟨hv, h0⟩ | ⟨g, cap, cur, hv, hb, hg, h1, h2, h3, h4⟩
  · omega
  · injection hv with h5 h6 h7
    omega
/-- A graph that is being drawn where the source is the call's own: its box bg, the result's box b2. -/
structure Dt (w0 : World) (g b2 bg : Nat) (W : World) (ge : Int) (v : Value) (gp : List Place) : Prop where
  src : Src W g
  below : Below w0.heap.size w0 W
  res : Blk W b2 32 #[.int .i64 0, .slice none 0 0]
  box : Blk W bg 32 #[.int .i64 ge, v]
  own : Own Place.cells 4 101 W (g + 1) v gp
  hb2 : w0.heap.size ≤ b2
  hbg : g < bg
  hne : b2 < g
  hg : w0.heap.size ≤ g
section
variable {w0 W W' : World} {g b2 bg : Nat} {ge : Int} {v : Value} {gp : List Place}
theorem Dt.evs (h : Dt w0 g b2 bg W ge v gp) : W.cell? ⟨bg, 0, none⟩ = some (.int .i64 ge) := h.box.c2.1
theorem Dt.pls (h : Dt w0 g b2 bg W ge v gp) : W.cell? ⟨bg, 1, none⟩ = some v := h.box.c2.2
theorem Dt.draw (h : Dt w0 g b2 bg W ge v gp) (hN : Drawn W g W') : Dt w0 g b2 bg W' ge v gp :=
  ⟨hN.1, below_draw h.below h.below.size h.hg hN, blk_draw h.res (by decide) h.src hN, blk_draw h.box (by decide) h.src hN, own_draw h.own (by decide) h.src hN, h.hb2, h.hbg, h.hne, h.hg⟩
theorem Dt.now (h : Dt w0 g b2 bg W ge v gp) (hb : Below W.heap.size W W') : Dt w0 g b2 bg W' ge v gp :=
  ⟨h.src.now hb, h.below.trans (hb.mono h.below.size), h.res.now hb, h.box.now hb, h.own.now hb, h.hb2, h.hbg, h.hne, h.hg⟩
/-- The places are cut. -/
theorem Dt.cut {A : Option Addr} {n c : Nat} (h : Dt w0 g b2 bg W ge (.slice A n c) gp) (k : Nat) (hk : k ≤ gp.length) : Dt w0 g b2 bg (W.setCell ⟨bg, 1, none⟩ (.slice A k c)) ge (.slice A k c) (gp.take k) := by
  have h1 := h.hbg
  have h2 := h.hne
  have h3 := h.hg
  have hneB := h.own.ne_blk h.box (by decide)
  exact ⟨h.src.kept (grown_setC W ⟨bg, 1, none⟩ _) (fun k e => by injection e with e; simp only at e; omega), h.below.setCell (p := ⟨bg, 1, none⟩) (by simp only; omega) _, h.res.far (p := ⟨bg, 1, none⟩) (by simp only; omega) _, h.box.set2b,
    own_take Place.cells_len (own_far h.own (p := ⟨bg, 1, none⟩) hneB _) k hk, h.hb2, h.hbg, h.hne, h.hg⟩
theorem Dt.app (h : Dt w0 g b2 bg W ge v gp) (hG : W.grownBy W' v.ownBlock) {v' : Value} {gp' : List Place} (hO : Own Place.cells 4 101 W' (g + 1) v' gp') : Dt w0 g b2 bg (W'.setCell ⟨bg, 1, none⟩ v') ge v' gp' := by
  have h1 := h.hbg
  have h2 := h.hne
  have h3 := h.hg
  have hbox := h.box.grown hG (fun e => h.own.ne_blk h.box (by decide) e.symm)
  have hres := h.res.grown hG (fun e => h.own.ne_blk h.res (by decide) e.symm)
  have hsrc := h.src.kept hG (fun k e => by have := (h.own.lt k e).1; omega)
  have hneB := hO.ne_blk hbox (by decide)
  have hbl := h.below.grown hG h.below.size (fun k e => by have := (h.own.lt k e).1; omega)
  exact ⟨hsrc.kept (grown_setC W' ⟨bg, 1, none⟩ _) (fun k e => by injection e with e; simp only at e; omega), hbl.setCell (p := ⟨bg, 1, none⟩) (by simp only; omega) _, hres.far (p := ⟨bg, 1, none⟩) (by simp only; omega) _, hbox.set2b,
    own_far hO (p := ⟨bg, 1, none⟩) hneB _, h.hb2, h.hbg, h.hne, h.hg⟩
theorem Dt.tok {bo n c : Nat} (h : Dt w0 g b2 bg W ge (.slice (some ⟨bo, 0, none⟩) n c) gp) (k : Nat) (hk : k < gp.length) (t : Int) :
    Dt w0 g b2 bg (W.setCell ⟨bo, k * 4 + 3, none⟩ (.int .i64 t)) ge (.slice (some ⟨bo, 0, none⟩) n c) (gp.set k ⟨gp[k].src, gp[k].dst, gp[k].delay, t⟩) := by
  have h1 := h.hbg
  have h2 := h.hne
  have h3 := h.hg
  have hb := (h.own.lt bo rfl).1
  have hx : bo ≠ bg := fun e => h.own.ne_blk h.box (by decide) (by rw [e]; rfl)
  exact ⟨h.src.kept (grown_setC W ⟨bo, k * 4 + 3, none⟩ _) (fun k e => by injection e with e; simp only at e; omega), h.below.setCell (p := ⟨bo, k * 4 + 3, none⟩) (by simp only; omega) _, h.res.far (p := ⟨bo, k * 4 + 3, none⟩) (by simp only; omega) _, h.box.far (p := ⟨bo, k * 4 + 3, none⟩) (Ne.symm hx) _,
    h.own.put Place.cells_len k 3 hk (by omega) ⟨gp[k].src, gp[k].dst, gp[k].delay, t⟩ (.int .i64 t) rfl (k * 4 + 3) (by omega), h.hb2, h.hbg, h.hne, h.hg⟩
theorem Dt.fin (h : Dt w0 g b2 bg W ge v gp) : Own Place.cells 4 101 ((W.setCell ⟨b2, 0, none⟩ (.int .i64 ge)).setCell ⟨b2, 1, none⟩ v) w0.heap.size v gp ∧ Below w0.heap.size w0 ((W.setCell ⟨b2, 0, none⟩ (.int .i64 ge)).setCell ⟨b2, 1, none⟩ v) := by
  have h2 := h.hb2
  have h3 := h.hg
  have hneR := h.own.ne_blk h.res (by decide)
  exact ⟨Own.rebase (base := g + 1) (own_far (own_far h.own (p := ⟨b2, 0, none⟩) hneR _) (p := ⟨b2, 1, none⟩) hneR _) (by omega), (h.below.setCell (p := ⟨b2, 0, none⟩) h2 _).setCell (p := ⟨b2, 1, none⟩) h2 _⟩
end
end Go.Proofs.Ytbdklhahbeiffaa
