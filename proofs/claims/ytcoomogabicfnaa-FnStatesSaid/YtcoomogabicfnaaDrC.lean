/-
  The walk of the draw of a graph and counts.
-/
import Derived.Test.YtcoomogabicfnaaDrA
namespace Go.Proofs.Ytcoomogabicfnaa
open Go.RowKit
set_option linter.unusedVariables false
set_option linter.unusedSimpArgs false
theorem Dr.tok {w0 W : World} {g b2 bg bo n c : Nat} {ge : Int} {gp : List Place} (h : Dr w0 g b2 bg W ge (.slice (some ⟨bo, 0, none⟩) n c) gp) (k : Nat) (hk : k < gp.length) (t : Int) :
    Dr w0 g b2 bg (W.setCell ⟨bo, k * 4 + 3, none⟩ (.int .i64 t)) ge (.slice (some ⟨bo, 0, none⟩) n c) (gp.set k ⟨gp[k].src, gp[k].dst, gp[k].delay, t⟩) := by
  have hg := h.hg
  have hb := (h.own.lt bo rfl).1
  have hr : bo ≠ b2 := fun e => h.own.ne_blk h.res (by decide) (by rw [e]; rfl)
  have hx : bo ≠ bg := fun e => h.own.ne_blk h.box (by decide) (by rw [e]; rfl)
  refine ⟨h.src.kept (grown_setC W ⟨bo, k * 4 + 3, none⟩ _) (fun k e => by injection e with e; simp only at e; omega), ?_, h.res.far (p := ⟨bo, k * 4 + 3, none⟩) (Ne.symm hr) _, h.box.far (p := ⟨bo, k * 4 + 3, none⟩) (Ne.symm hx) _,
    h.own.put Place.cells_len k 3 hk (by omega) ⟨gp[k].src, gp[k].dst, gp[k].delay, t⟩ (.int .i64 t) rfl (k * 4 + 3) (by omega), h.hb2, h.hbg, h.hne, hg⟩
  have hG := h.grown
  exact ⟨hG.os, hG.tape, hG.output, by simpa [World.setCell] using hG.size, fun i hi hne => (Below.heap_setCell W ⟨bo, k * 4 + 3, none⟩ _ i (by simp only; omega)).trans (hG.block i hi hne)⟩
set_option maxHeartbeats 4000000 in
set_option maxRecDepth 100000 in
theorem spec_l12Draw (g : Nat) (w : World) (h : Src w g) :
    Calls Try.prog 29 #[.pointer (some ⟨g, 0, none⟩)] w fun e w' => ∃ ge gp v, e = .returned (.agg #[.int .i64 ge, v]) ∧ 0 ≤ ge ∧ ge ≤ 11 ∧ gp.length ≤ 40 ∧ Own Place.cells 4 46 w' w.heap.size v gp ∧ Drawn w g w' := by
  have hgw := h.lt
  go_enter Try.func29, Try.ntmps29
  go_wp2_with fail
  have hA : Below w.heap.size w (w.alloc (.cells #[.int .i64 0, .slice none 0 0] 26)) := (Below.refl _ _).alloc (Nat.le_refl _) _
  refine (spec_l11Draw g _ (h.now hA)).mono ?_
  rintro e w1 ⟨ge, gp, v, rfl, hg0, hg1, hlen, hO, hN⟩
  obtain ⟨A, c, rfl⟩ := hO.shape
  have hres := (Blk.new w 26 #[.int .i64 0, .slice none 0 0]).grown hN.2 (fun e => by injection e with e; omega)
  have hG1 := grown_trans (grown_of_below (r := some g) hA) hN.2
  have hs1 := hG1.size
  have hlt1 := hres.lt
  have hA2 : Below w1.heap.size w1 (w1.alloc (.cells #[.int .i64 ge, .slice A gp.length c] 26)) := (Below.refl _ _).alloc (Nat.le_refl _) _
  have hD : Dr w g w.heap.size w1.heap.size (w1.alloc (.cells #[.int .i64 ge, .slice A gp.length c] 26)) ge (.slice A gp.length c) gp :=
    ⟨hN.1.now hA2, grown_trans hG1 (grown_of_below hA2), hres.now hA2, Blk.newAt _ _ rfl, (hO.rebase hA.size).now hA2, Nat.le_refl _, hs1, by omega, hgw⟩
  go_wp2
  obtain ⟨bg, hbg⟩ : ∃ bg, w1.heap.size = bg := ⟨_, rfl⟩
  obtain ⟨b2, hb2⟩ : ∃ b2, w.heap.size = b2 := ⟨_, rfl⟩
  have hD' : Dr w g b2 bg (w1.alloc (.cells #[.int .i64 ge, .slice A gp.length c] 26)) ge (.slice A gp.length c) gp := by rw [← hb2, ← hbg]; exact hD
  clear hN hO hres hG1 hs1 hlt1 hD
  rw [hbg]
  rw [show (Value.pointer (some ⟨w.heap.size, 0, none⟩)) = .pointer (some ⟨b2, 0, none⟩) by rw [hb2]]
  clear hA hA2
  go_loopw [4] (fun i wr => ∃ (k : Nat) (gp' : List Place), k ≤ gp.length ∧ i = .int .i64 k ∧ gp'.length = gp.length ∧ Dr w g b2 bg wr ge (.slice A gp.length c) gp') (fun i _ => gp.length - (intOf i).toNat)
  case atStart => exact ⟨0, gp, Nat.zero_le _, rfl, rfl, hD'⟩
  case round =>
    clear hD' hbg hb2
    obtain ⟨k, gp', hk, rfl, hl', hD⟩ := hrel
    obtain ⟨e0, e1⟩ := hD.box.c2
    have lbg := hD.box.lt
    by_cases hlt : k < gp.length
    · by_cases h9 : (k : Int) < 9
      · go_wp2_with fail
        clear e0 e1 lbg
        refine (spec_l01Next g 12 _ hD.src (by omega)).mono ?_
        rintro e wa ⟨x, rfl, hx, hN⟩
        replace hD := hD.draw hN
        clear hN hx
        obtain ⟨e0, e1⟩ := hD.box.c2
        have lbg := hD.box.lt
        by_cases hx0 : x = 0
        · have hq : (x == 0) = true := by simp [hx0]
          clear hx0
          have hk' : k < gp'.length := by omega
          obtain ⟨bo, c', hu, _, hbl, hfz, hcell⟩ := hD.own.at_ Place.cells_len k hk'
          obtain rfl : A = some ⟨bo, 0, none⟩ := by injection hu
          have hc3 := hcell 3 (.int .i64 gp'[k].tokens) (by omega) rfl
          have hDn := Lib.hid (hD.tok k hk' 0)
          clear hu hcell hD
          go_wp2
          go_roundw
          case rel => exact ⟨k + 1, _, hlt, by go_num, by simpa using hl', hDn.out⟩
          case measure => simp [intOf]; omega
        · have hq : (x == 0) = false := by simpa using hx0
          clear hx0
          go_wp2
          go_roundw
          case rel => exact ⟨k + 1, gp', hlt, by go_num, hl', hD⟩
          case measure => simp [intOf]; omega
      · have f0 := hD.res.frozen 0
        have f1 := hD.res.frozen 1
        have lb2 := hD.res.lt
        obtain ⟨r0, r1⟩ := hD.res.c2
        have hF := Lib.hid hD.fin
        clear hD
        go_wp2
        refine bodyPost_ret (v := .agg #[.int .i64 ge, _]) (by simp [results, Try.results29, go_sem, r0, r1]) rfl ⟨_, _, _, rfl, by omega, by omega, by omega, hF.out.1, hF.out.2⟩
    · have f0 := hD.res.frozen 0
      have f1 := hD.res.frozen 1
      have lb2 := hD.res.lt
      obtain ⟨r0, r1⟩ := hD.res.c2
      have hF := Lib.hid hD.fin
      clear hD
      go_wp2
      refine bodyPost_ret (v := .agg #[.int .i64 ge, _]) (by simp [results, Try.results29, go_sem, r0, r1]) rfl ⟨_, _, _, rfl, by omega, by omega, by omega, hF.out.1, hF.out.2⟩
end Go.Proofs.Ytcoomogabicfnaa
namespace Go.Proofs.Ytcoomogabicfnaa
open Go.RowKit
set_option linter.unusedVariables false
set_option linter.unusedSimpArgs false
end Go.Proofs.Ytcoomogabicfnaa
