/-
  The walk of the draw of a graph for reachable markings.
-/
import Derived.Test.YthamppcpjmnnkaaDrC
namespace Go.Proofs.Ythamppcpjmnnkaa
open Go.RowKit
set_option linter.unusedVariables false
set_option linter.unusedSimpArgs false
theorem own_take {α : Type} {f : α → List Value} {size : Nat} (hf : ∀ x, (f x).length = size) {e : TypeId} {w : World} {base n c : Nat} {A : Option Addr} {l : List α} (h : Own f size e w base (.slice A n c) l) (k : Nat) (hk : k ≤ l.length) : Own f size e w base (.slice A k c) (l.take k) := by
  have hl : (l.take k).length = k := by simp [hk]
  refine ⟨by rw [flat_len f size hf, hl], ?_⟩
  rcases h.2 with ⟨hv, h0⟩ | ⟨g, cap, cur, hv, hb, hg, h1, h2, h3, h4⟩
  · left
    injection hv with h5 h6 h7
    subst h5 h7
    have : k = 0 := by omega
    subst this
    exact ⟨rfl, by simp⟩
  · right
    injection hv with h5 h6 h7
    subst h5 h7
    refine ⟨g, c, cur, by rw [hl], hb, hg, by omega, h2, h3, ?_⟩
    rw [hl]
    have h5 : cur.toList.take (k * size) = (cur.toList.take (l.length * size)).take (k * size) := by
      rw [List.take_take, Nat.min_eq_left (Nat.mul_le_mul_right size hk)]
    rw [h5, h4]
    have h6 : (l.take k).flatMap f ++ (l.drop k).flatMap f = l.flatMap f := by rw [← List.flatMap_append, List.take_append_drop]
    rw [← h6]
    have h7 : ((l.take k).flatMap f).length = k * size := by rw [flat_len f size hf, hl]
    rw [← h7, List.take_left]
theorem own_cap {α : Type} {f : α → List Value} {size : Nat} {e : TypeId} {w : World} {base n c : Nat} {A : Option Addr} {l : List α} (h : Own f size e w base (.slice A n c) l) : l.length ≤ c := by
  rcases h.2 with ⟨hv, h0⟩ | ⟨g, cap, cur, hv, hb, hg, h1, h2, h3, h4⟩
  · omega
  · injection hv with h5 h6 h7
    omega
/-- A graph that is being drawn where the source is the call's own: its box bg, the result's box b2. -/
structure Dt (w0 : World) (g b2 bg : Nat) (W : World) (ge : Int) (v : Value) (gp : List Place) : Prop where
  src : Src W g
  below : Below w0.heap.size w0 W
  res : Blk W b2 26 #[.int .i64 0, .slice none 0 0]
  box : Blk W bg 26 #[.int .i64 ge, v]
  own : Own Place.cells 4 47 W (g + 1) v gp
  hb2 : w0.heap.size ≤ b2
  hbg : g < bg
  hne : b2 < g
  hg : w0.heap.size ≤ g
section
variable {w0 W W' : World} {g b2 bg : Nat} {ge : Int} {v : Value} {gp : List Place}
theorem Dt.evs (h : Dt w0 g b2 bg W ge v gp) : W.cell? ⟨bg, 0, none⟩ = some (.int .i64 ge) := h.box.c2.1
theorem Dt.pls (h : Dt w0 g b2 bg W ge v gp) : W.cell? ⟨bg, 1, none⟩ = some v := h.box.c2.2
theorem Dt.draw (h : Dt w0 g b2 bg W ge v gp) (hN : Drawn W g W') : Dt w0 g b2 bg W' ge v gp :=
  ⟨hN.1, below_draw h.below h.below.size h.hg hN, blk_draw h.res (by decide) h.src hN, blk_draw h.box (by decide) h.src hN, own_draw h.own (by decide) h.src hN, h.hb2, h.hbg, h.hne, h.hg⟩
theorem Dt.now (h : Dt w0 g b2 bg W ge v gp) (hb : Below W.heap.size W W') : Dt w0 g b2 bg W' ge v gp :=
  ⟨h.src.now hb, h.below.trans (hb.mono h.below.size), h.res.now hb, h.box.now hb, h.own.now hb, h.hb2, h.hbg, h.hne, h.hg⟩
/-- The places are cut. -/
theorem Dt.cut {A : Option Addr} {n c : Nat} (h : Dt w0 g b2 bg W ge (.slice A n c) gp) (k : Nat) (hk : k ≤ gp.length) : Dt w0 g b2 bg (W.setCell ⟨bg, 1, none⟩ (.slice A k c)) ge (.slice A k c) (gp.take k) := by
  have h1 := h.hbg
  have h2 := h.hne
  have h3 := h.hg
  have hneB := h.own.ne_blk h.box (by decide)
  exact ⟨h.src.kept (grown_setC W ⟨bg, 1, none⟩ _) (fun k e => by injection e with e; simp only at e; omega), h.below.setCell (p := ⟨bg, 1, none⟩) (by simp only; omega) _, h.res.far (p := ⟨bg, 1, none⟩) (by simp only; omega) _, h.box.set2b,
    own_take Place.cells_len (own_far h.own (p := ⟨bg, 1, none⟩) hneB _) k hk, h.hb2, h.hbg, h.hne, h.hg⟩
theorem Dt.app (h : Dt w0 g b2 bg W ge v gp) (hG : W.grownBy W' v.ownBlock) {v' : Value} {gp' : List Place} (hO : Own Place.cells 4 47 W' (g + 1) v' gp') : Dt w0 g b2 bg (W'.setCell ⟨bg, 1, none⟩ v') ge v' gp' := by
  have h1 := h.hbg
  have h2 := h.hne
  have h3 := h.hg
  have hbox := h.box.grown hG (fun e => h.own.ne_blk h.box (by decide) e.symm)
  have hres := h.res.grown hG (fun e => h.own.ne_blk h.res (by decide) e.symm)
  have hsrc := h.src.kept hG (fun k e => by have := (h.own.lt k e).1; omega)
  have hneB := hO.ne_blk hbox (by decide)
  have hbl := h.below.grown hG h.below.size (fun k e => by have := (h.own.lt k e).1; omega)
  exact ⟨hsrc.kept (grown_setC W' ⟨bg, 1, none⟩ _) (fun k e => by injection e with e; simp only at e; omega), hbl.setCell (p := ⟨bg, 1, none⟩) (by simp only; omega) _, hres.far (p := ⟨bg, 1, none⟩) (by simp only; omega) _, hbox.set2b,
    own_far hO (p := ⟨bg, 1, none⟩) hneB _, h.hb2, h.hbg, h.hne, h.hg⟩
theorem Dt.tok {bo n c : Nat} (h : Dt w0 g b2 bg W ge (.slice (some ⟨bo, 0, none⟩) n c) gp) (k : Nat) (hk : k < gp.length) (t : Int) :
    Dt w0 g b2 bg (W.setCell ⟨bo, k * 4 + 3, none⟩ (.int .i64 t)) ge (.slice (some ⟨bo, 0, none⟩) n c) (gp.set k ⟨gp[k].src, gp[k].dst, gp[k].delay, t⟩) := by
  have h1 := h.hbg
  have h2 := h.hne
  have h3 := h.hg
  have hb := (h.own.lt bo rfl).1
  have hx : bo ≠ bg := fun e => h.own.ne_blk h.box (by decide) (by rw [e]; rfl)
  exact ⟨h.src.kept (grown_setC W ⟨bo, k * 4 + 3, none⟩ _) (fun k e => by injection e with e; simp only at e; omega), h.below.setCell (p := ⟨bo, k * 4 + 3, none⟩) (by simp only; omega) _, h.res.far (p := ⟨bo, k * 4 + 3, none⟩) (by simp only; omega) _, h.box.far (p := ⟨bo, k * 4 + 3, none⟩) (Ne.symm hx) _,
    h.own.put Place.cells_len k 3 hk (by omega) ⟨gp[k].src, gp[k].dst, gp[k].delay, t⟩ (.int .i64 t) rfl (k * 4 + 3) (by omega), h.hb2, h.hbg, h.hne, h.hg⟩
theorem Dt.fin (h : Dt w0 g b2 bg W ge v gp) : Own Place.cells 4 47 ((W.setCell ⟨b2, 0, none⟩ (.int .i64 ge)).setCell ⟨b2, 1, none⟩ v) w0.heap.size v gp ∧ Below w0.heap.size w0 ((W.setCell ⟨b2, 0, none⟩ (.int .i64 ge)).setCell ⟨b2, 1, none⟩ v) := by
  have h2 := h.hb2
  have h3 := h.hg
  have hneR := h.own.ne_blk h.res (by decide)
  exact ⟨Own.rebase (base := g + 1) (own_far (own_far h.own (p := ⟨b2, 0, none⟩) hneR _) (p := ⟨b2, 1, none⟩) hneR _) (by omega), (h.below.setCell (p := ⟨b2, 0, none⟩) h2 _).setCell (p := ⟨b2, 1, none⟩) h2 _⟩
end
set_option maxHeartbeats 4000000 in
set_option maxRecDepth 100000 in
theorem spec_DrawReachableMarkings (cv : Value) (bs : List Int) (w : World) (h0 : Lst byteCell 1 w w.heap.size cv bs) (hbv : Hid (∀ b ∈ bs, 0 ≤ b ∧ b ≤ 255)) :
    Calls Try.prog 16 #[cv] w fun e w' => ∃ ge gp v, e = .returned (.agg #[.int .i64 ge, v]) ∧ 0 ≤ ge ∧ ge ≤ 11 ∧ gp.length ≤ 40 ∧ Own Place.cells 4 47 w' w.heap.size v gp ∧ Below w.heap.size w w' := by
  go_enter Try.func16, Try.ntmps16
  go_wp2_with fail
  have hA : Below w.heap.size w (w.alloc (.cells #[.int .i64 0, .slice none 0 0] 26)) := (Below.refl _ _).alloc (Nat.le_refl _) _
  have hres := Blk.newAt w (t := 26) (cs := #[.int .i64 0, .slice none 0 0]) _ rfl
  have hszA : (w.alloc (.cells #[.int .i64 0, .slice none 0 0] 26)).heap.size = w.heap.size + 1 := by simp
  refine (spec_l01From _ bs _ (h0.now hA) hbv).mono ?_
  rintro e w1 ⟨rfl, hS, hB1⟩
  rw [hszA] at hS hB1 ⊢
  have hB : Below w.heap.size w w1 := hA.trans (hB1.mono (by omega))
  replace hres := hres.below hB1 (by omega)
  obtain ⟨b2, hb2⟩ : ∃ b2, w.heap.size = b2 := ⟨_, rfl⟩
  obtain ⟨g, hg⟩ : ∃ g, w.heap.size + 1 = g := ⟨_, rfl⟩
  have hgb : w.heap.size ≤ g := by omega
  have hb2g : b2 < g := by omega
  rw [hg] at hS ⊢
  rw [hb2] at hres
  rw [show (Value.pointer (some ⟨w.heap.size, 0, none⟩)) = .pointer (some ⟨b2, 0, none⟩) by rw [hb2]]
  have hb2w : w.heap.size ≤ b2 := by omega
  have hs1 := hB.size
  clear hA hszA hB1 hb2 hg
  go_wp2_with fail
  refine (spec_l12Draw g _ hS).mono ?_
  rintro e w2 ⟨ge, gp, v, rfl, hg0, hg1, hlen, hO, hN⟩
  obtain ⟨A, c, rfl⟩ := hO.shape
  replace hO := hO.rebase (show g + 1 ≤ w1.heap.size from hS.lt)
  replace hres := blk_draw hres (by decide) hS hN
  replace hB := below_draw hB hs1 hgb hN
  replace hS := hN.1
  have hs2 := hB.size
  have hSl := hS.lt
  clear hN hs1
  have hA2 : Below w2.heap.size w2 (w2.alloc (.cells #[.int .i64 ge, .slice A gp.length c] 26)) := (Below.refl _ _).alloc (Nat.le_refl _) _
  have hDall : ∀ n, n ≤ gp.length → Dt w g b2 w2.heap.size (w2.alloc (.cells #[.int .i64 ge, .slice A n c] 26)) ge (.slice A n c) (gp.take n) := fun n hn => by
    have hA3 : Below w2.heap.size w2 (w2.alloc (.cells #[.int .i64 ge, .slice A n c] 26)) := (Below.refl _ _).alloc (Nat.le_refl _) _
    exact ⟨hS.now hA3, hB.trans (hA3.mono hs2), hres.now hA3, Blk.newAt _ _ rfl, own_take Place.cells_len (hO.now hA3) n hn, hb2w, hSl, hb2g, hgb⟩
  have hcl : gp.length ≤ c := own_cap hO
  clear hS hB hO hres hs2 hSl
  obtain ⟨bg, hbg⟩ : ∃ bg, w2.heap.size = bg := ⟨_, rfl⟩
  have hbx : Blk (w2.alloc (.cells #[.int .i64 ge, .slice A gp.length c] 26)) w2.heap.size 26 #[.int .i64 ge, .slice A gp.length c] := Blk.newAt _ _ rfl
  by_cases hgt : (12 : Int) < (gp.length : Int)
  · obtain ⟨f0, f1⟩ := hbx.f2
    have lbg := hbx.lt
    obtain ⟨e0, e1⟩ := hbx.c2
    have hD := hDall 12 (by omega)
    have hn : (gp.take 12).length = 12 := by simp; omega
    have hn12 : (12 : Nat) ≤ 12 := Nat.le_refl _
    go_wp2
    rw [hbg] at hD
    clear f0 f1 lbg e0 e1 hbx hDall hbg hcl hgt
    generalize w2.alloc (.cells #[.int .i64 ge, .slice A 12 c] 26) = W3 at *
    generalize gp.take 12 = gq at *
    go_loopw [5] (fun i wr => ∃ (k : Nat) (gp' : List Place), k ≤ 12 ∧ i = .int .i64 k ∧ gp'.length = 12 ∧ Dt w g b2 bg wr ge (.slice A 12 c) gp') (fun i _ => 12 - (intOf i).toNat)
    case atStart => exact ⟨0, gq, Nat.zero_le _, rfl, hn, hD⟩
    case round =>
      clear hD
      obtain ⟨k, gp', hk, rfl, hl', hD⟩ := hrel
      obtain ⟨e0, e1⟩ := hD.box.c2
      have lbg := hD.box.lt
      by_cases hlt : k < 12
      · have hk' : k < gp'.length := by omega
        obtain ⟨bo, c', hu, _, hbl, hfz, hcell⟩ := hD.own.at_ Place.cells_len k hk'
        obtain rfl : A = some ⟨bo, 0, none⟩ := by injection hu
        have hc3 := hcell 3 (.int .i64 gp'[k].tokens) (by omega) rfl
        have hDn := Lib.hid (hD.tok k hk' 2)
        have hDo := Lib.hid hD
        have hfr := hfz (k * 4 + 3)
        clear hu hcell hD hfz
        obtain ⟨tk, htk⟩ : ∃ tk, gp'[k].tokens = tk := ⟨_, rfl⟩
        rw [htk] at hc3
        have i1 : (0 : Int) ≤ (k : Int) := by omega
        have i2 : (k : Int) < ((12 : Nat) : Int) := by omega
        by_cases h2 : (2 : Int) < tk
        · go_wp2
          go_roundw
          case rel => exact ⟨k + 1, _, hlt, by go_num, by simpa using hl', hDn.out⟩
          case measure => simp [intOf]; omega
        · go_wp2
          go_roundw
          case rel => exact ⟨k + 1, gp', hlt, by go_num, hl', hDo.out⟩
          case measure => simp [intOf]; omega
      · obtain rfl : 12 = k := by omega
        go_wp2_with fail
        clear e0 e1 lbg
        refine (spec_l01Next g 2 _ hD.src (by omega)).mono ?_
        rintro e wa ⟨x, rfl, hx, hN⟩
        replace hD := hD.draw hN
        clear hN hx
        obtain ⟨e0, e1⟩ := hD.box.c2
        have lbg := hD.box.lt
        by_cases hx0 : x = 0
        · have hq : (x == 0) = true := by simp [hx0]
          clear hx0
          by_cases hg1 : (1 : Int) < ge
          · by_cases hg6 : ge < 6
            · go_wp2
              clear e0 e1 lbg
              go_loopw [6] (fun ev wr => ∃ (k : Nat) (A' : Option Addr) (c' m' : Nat) (gr : List Place), ev = .int .i64 k ∧ (k : Int) ≤ ge ∧ Hid (m' = 12 + k) ∧ gr.length = m' ∧ Dt w g b2 bg wr ge (.slice A' m' c') gr) (fun ev _ => 20 - (intOf ev).toNat)
              case atStart => exact ⟨0, _, _, 12, gp', rfl, by omega, Lib.hid (by omega), hl', hD⟩
              case round =>
                clear hD hl'
                obtain ⟨k, A', c', m', gr, rfl, hkg, hm', hgr, hD⟩ := hrel
                by_cases hlt2 : (k : Int) < ge
                · obtain ⟨D, hDd⟩ : ∃ D, Int.tmod ((k : Int) + 1) ge = D := ⟨_, rfl⟩
                  obtain ⟨T, hT⟩ : ∃ T, Int.tdiv ((k : Int) + 1) ge = T := ⟨_, rfl⟩
                  have hlenA : gr.length + [(⟨k, D, 0, T⟩ : Place)].length ≤ 1099511627776 := by simp; have := hm'.out; omega
                  have hLL : Hid ((gr ++ [(⟨k, D, 0, T⟩ : Place)]).length = m' + 1) := by show _ = _; simp; omega
                  have hwk : IntKind.i64.wrap ((k : Int) + 1) = (k : Int) + 1 := IntWalk.i64_in _ (by omega)
                  have hgz : ¬ (ge = 0) := by omega
                  have hTb : 0 ≤ T ∧ T ≤ 6 := by rw [← hT]; exact ⟨Int.tdiv_nonneg (by omega) (by omega), Int.le_trans (Int.tdiv_le_self _ (by omega)) (by omega)⟩
                  have hwT : IntKind.i64.wrap T = T := IntWalk.i64_in _ (by omega)
                  clear hTb
                  have hgrH := Lib.hid hgr
                  clear hgr
                  obtain ⟨e0, e1⟩ := hD.box.c2
                  have lbg := hD.box.lt
                  go_wp2_with fail
                  clear e0 e1 lbg
                  replace hD := hD.now (Below.drew (Below.refl _ wr))
                  refine wp_region_E (fun w' => w'.cell? ⟨bg, 0, none⟩ = some (.int .i64 ge) ∧ w'.cell? ⟨bg, 1, none⟩ = some (.slice A' m' c')) 17 (by kernel_rfl) ?_
                  have hS0 : (fun w' : World => w'.cell? ⟨bg, 0, none⟩ = some (.int .i64 ge) ∧ w'.cell? ⟨bg, 1, none⟩ = some (.slice A' m' c')) wr.drew := ⟨hD.evs, hD.pls⟩
                  clear hS0
                  generalize wr.drew = V0 at *
                  have hS0 : (fun w' : World => w'.cell? ⟨bg, 0, none⟩ = some (.int .i64 ge) ∧ w'.cell? ⟨bg, 1, none⟩ = some (.slice A' m' c')) V0 := ⟨hD.evs, hD.pls⟩
                  refine wpAnyE_take (i := 0) (v := ?_) rfl (by kernel_rfl) (by kernel_rfl) (by kernel_rfl) (by kernel_rfl) (by kernel_rfl) (fun _ _ _ h => h) hS0 (by rfl) ?_ ?_
                  rotate_left
                  · intro w9 hSw
                    try dsimp only at hSw
                    obtain ⟨s0, s1⟩ := hSw
                    go_simp
                    try with_reducible rfl
                  try simp only [Act.put, List.setIfInBounds_toArray, List.set_cons_zero, List.set_cons_succ]
                  refine wpAnyE_take (i := 1) (v := ?_) rfl (by kernel_rfl) (by kernel_rfl) (by kernel_rfl) (by kernel_rfl) (by kernel_rfl) (fun _ _ _ h => h) hS0 (by rfl) ?_ ?_
                  rotate_left
                  · intro w9 hSw
                    try dsimp only at hSw
                    obtain ⟨s0, s1⟩ := hSw
                    go_simp
                    try with_reducible rfl
                  try simp only [Act.put, List.setIfInBounds_toArray, List.set_cons_zero, List.set_cons_succ]
                  refine wpAnyE_take (i := 2) (v := ?_) rfl (by kernel_rfl) (by kernel_rfl) (by kernel_rfl) (by kernel_rfl) (by kernel_rfl) (fun _ _ _ h => h) hS0 (by rfl) ?_ ?_
                  rotate_left
                  · intro w9 hSw
                    try dsimp only at hSw
                    obtain ⟨s0, s1⟩ := hSw
                    go_simp
                    try with_reducible rfl
                  try simp only [Act.put, List.setIfInBounds_toArray, List.set_cons_zero, List.set_cons_succ]
                  refine wpAnyE_take (i := 3) (v := ?_) rfl (by kernel_rfl) (by kernel_rfl) (by kernel_rfl) (by kernel_rfl) (by kernel_rfl) (fun _ _ _ h => h) hS0 (by rfl) ?_ ?_
                  rotate_left
                  · intro w9 hSw
                    try dsimp only at hSw
                    obtain ⟨s0, s1⟩ := hSw
                    go_simp
                    try with_reducible rfl
                  try simp only [Act.put, List.setIfInBounds_toArray, List.set_cons_zero, List.set_cons_succ]
                  refine wpAnyE_take (i := 4) (v := ?_) rfl (by kernel_rfl) (by kernel_rfl) (by kernel_rfl) (by kernel_rfl) (by kernel_rfl) (fun _ _ _ h => h) hS0 (by rfl) ?_ ?_
                  rotate_left
                  · intro w9 hSw
                    try dsimp only at hSw
                    obtain ⟨s0, s1⟩ := hSw
                    go_simp
                    try with_reducible rfl
                  try simp only [Act.put, List.setIfInBounds_toArray, List.set_cons_zero, List.set_cons_succ]
                  refine wpAnyE_take (i := 5) (v := ?_) rfl (by kernel_rfl) (by kernel_rfl) (by kernel_rfl) (by kernel_rfl) (by kernel_rfl) (fun _ _ _ h => h) hS0 (by rfl) ?_ ?_
                  rotate_left
                  · intro w9 hSw
                    try dsimp only at hSw
                    obtain ⟨s0, s1⟩ := hSw
                    go_simp
                    try with_reducible rfl
                  try simp only [Act.put, List.setIfInBounds_toArray, List.set_cons_zero, List.set_cons_succ]
                  refine wpAnyE_take (i := 6) (v := ?_) rfl (by kernel_rfl) (by kernel_rfl) (by kernel_rfl) (by kernel_rfl) (by kernel_rfl) (fun _ _ _ h => h) hS0 (by rfl) ?_ ?_
                  rotate_left
                  · intro w9 hSw
                    try dsimp only at hSw
                    obtain ⟨s0, s1⟩ := hSw
                    go_simp
                    try with_reducible rfl
                  try simp only [Act.put, List.setIfInBounds_toArray, List.set_cons_zero, List.set_cons_succ]
                  refine wpAnyE_take (i := 7) (v := ?_) rfl (by kernel_rfl) (by kernel_rfl) (by kernel_rfl) (by kernel_rfl) (by kernel_rfl) (fun _ _ _ h => h) hS0 (by rfl) ?_ ?_
                  rotate_left
                  · intro w9 hSw
                    try dsimp only at hSw
                    obtain ⟨s0, s1⟩ := hSw
                    go_simp
                    try with_reducible rfl
                  try simp only [Act.put, List.setIfInBounds_toArray, List.set_cons_zero, List.set_cons_succ]
                  refine wpAnyE_take (i := 8) (v := ?_) rfl (by kernel_rfl) (by kernel_rfl) (by kernel_rfl) (by kernel_rfl) (by kernel_rfl) (fun _ _ _ h => h) hS0 (by rfl) ?_ ?_
                  rotate_left
                  · intro w9 hSw
                    try dsimp only at hSw
                    obtain ⟨s0, s1⟩ := hSw
                    go_simp
                    try with_reducible rfl
                  try simp only [Act.put, List.setIfInBounds_toArray, List.set_cons_zero, List.set_cons_succ]
                  refine wpAnyE_take (i := 9) (v := ?_) rfl (by kernel_rfl) (by kernel_rfl) (by kernel_rfl) (by kernel_rfl) (by kernel_rfl) (fun _ _ _ h => h) hS0 (by rfl) ?_ ?_
                  rotate_left
                  · intro w9 hSw
                    try dsimp only at hSw
                    obtain ⟨s0, s1⟩ := hSw
                    go_simp
                    try with_reducible rfl
                  try simp only [Act.put, List.setIfInBounds_toArray, List.set_cons_zero, List.set_cons_succ]
                  refine wpAnyE_take (i := 10) (v := ?_) rfl (by kernel_rfl) (by kernel_rfl) (by kernel_rfl) (by kernel_rfl) (by kernel_rfl) (fun _ _ _ h => h) hS0 (by rfl) ?_ ?_
                  rotate_left
                  · intro w9 hSw
                    try dsimp only at hSw
                    obtain ⟨s0, s1⟩ := hSw
                    go_simp
                    try with_reducible rfl
                  try simp only [Act.put, List.setIfInBounds_toArray, List.set_cons_zero, List.set_cons_succ]
                  refine wpAnyE_take (i := 11) (v := ?_) rfl (by kernel_rfl) (by kernel_rfl) (by kernel_rfl) (by kernel_rfl) (by kernel_rfl) (fun _ _ _ h => h) hS0 (by rfl) ?_ ?_
                  rotate_left
                  · intro w9 hSw
                    try dsimp only at hSw
                    obtain ⟨s0, s1⟩ := hSw
                    go_simp
                    try with_reducible rfl
                  try simp only [Act.put, List.setIfInBounds_toArray, List.set_cons_zero, List.set_cons_succ]
                  refine wpAnyE_take (i := 12) (v := ?_) rfl (by kernel_rfl) (by kernel_rfl) (by kernel_rfl) (by kernel_rfl) (by kernel_rfl) (fun _ _ _ h => h) hS0 (by rfl) ?_ ?_
                  rotate_left
                  · intro w9 hSw
                    try dsimp only at hSw
                    obtain ⟨s0, s1⟩ := hSw
                    go_simp
                    try with_reducible rfl
                  try simp only [Act.put, List.setIfInBounds_toArray, List.set_cons_zero, List.set_cons_succ]
                  refine wpAnyE_take (i := 13) (v := ?_) rfl (by kernel_rfl) (by kernel_rfl) (by kernel_rfl) (by kernel_rfl) (by kernel_rfl) (fun _ _ _ h => h) hS0 (by rfl) ?_ ?_
                  rotate_left
                  · intro w9 hSw
                    try dsimp only at hSw
                    obtain ⟨s0, s1⟩ := hSw
                    go_simp
                    try with_reducible rfl
                  try simp only [Act.put, List.setIfInBounds_toArray, List.set_cons_zero, List.set_cons_succ]
                  refine wpAnyE_one (i := 14) rfl (by kernel_rfl) (fun K hK => ?_)
                  have hZ2 : Below V0.heap.size V0 (V0.alloc (.cells #[.int .i64 k, .int .i64 D, .int .i64 0, .int .i64 T] 47)) := (Below.refl _ _).alloc (Nat.le_refl _) _
                  have hLst := lst_new1 Place.cells 4 Place.cells_len V0 47 (⟨k, D, 0, T⟩ : Place) _ rfl _ rfl
                  replace hD := hD.now hZ2
                  go_simp
                  refine hK.out _ _ (fun _ => ⟨hD.evs, hD.pls⟩) ?_
                  clear hK K
                  try simp only [Act.put, List.setIfInBounds_toArray, List.set_cons_zero, List.set_cons_succ]
                  refine wpAnyE_one (i := 15) rfl (by kernel_rfl) (fun K hK => ?_)
                  have hbsQ := hD.src.lt
                  refine step_append_lst rfl _ _ 24 rfl Place.cells 4 Place.cells_one (by omega) (g + 1) 47 _ 32 Try.underlying24 info_place rfl (.slice A' m' c') gr rfl hD.own _ _ _ _ [(⟨k, D, 0, T⟩ : Place)] rfl hLst hlenA (by omega) hbsQ ?_
                  intro v' w9 hO1 hG1 hD1
                  obtain ⟨V1, cv1, rfl⟩ := own_shape_n hO1 hLL.out
                  have hbx := hD.box.grown hG1 (fun e => hD.own.ne_blk hD.box (by decide) e.symm)
                  obtain ⟨f0, f1⟩ := hbx.f2
                  have l9 := hbx.lt
                  obtain ⟨b0, b1⟩ := hbx.c2
                  have hDn := Lib.hid (hD.app hG1 hO1)
                  refine hK.out _ _ (fun _ => ⟨b0, b1⟩) ?_
                  clear hK K
                  try simp only [Act.put, List.setIfInBounds_toArray, List.set_cons_zero, List.set_cons_succ]
                  refine wpAnyE_one (i := 16) rfl (by kernel_rfl) (fun K hK => ?_)
                  go_simp
                  refine hK.out _ _ (fun _ => ⟨b0, b1⟩) ?_
                  clear hK K
                  try simp only [Act.put, List.setIfInBounds_toArray, List.set_cons_zero, List.set_cons_succ]
                  refine wpAnyE_one (i := 17) rfl (by kernel_rfl) (fun K hK => ?_)
                  go_simp
                  refine hK.out _ _ (fun h => absurd rfl h) ?_
                  clear hK K
                  try simp only [Act.put, List.setIfInBounds_toArray, List.set_cons_zero, List.set_cons_succ]
                  refine wpAnyE_done (by kernel_rfl) ?_
                  clear hS0
                  go_wp2
                  go_roundw
                  case rel => exact ⟨k + 1, V1, cv1, m' + 1, gr ++ [(⟨k, D, 0, T⟩ : Place)], by go_num, by omega, Lib.hid (by have := hm'.out; omega), hLL.out, hDn.out⟩
                  case measure => simp [intOf]; omega
                · have hl40 : gr.length ≤ 40 := by have := hm'.out; omega
                  have f0 := hD.res.frozen 0
                  have f1 := hD.res.frozen 1
                  have lb2 := hD.res.lt
                  obtain ⟨r0, r1⟩ := hD.res.c2
                  obtain ⟨e0, e1⟩ := hD.box.c2
                  have lbg := hD.box.lt
                  have hF := Lib.hid hD.fin
                  clear hD
                  go_wp2
                  refine bodyPost_ret (v := .agg #[.int .i64 ge, _]) (by simp [results, Try.results16, go_sem, r0, r1]) rfl ⟨_, _, _, rfl, by omega, by omega, by omega, hF.out.1, hF.out.2⟩
            · have hl40 : gp'.length ≤ 40 := by omega
              have f0 := hD.res.frozen 0
              have f1 := hD.res.frozen 1
              have lb2 := hD.res.lt
              obtain ⟨r0, r1⟩ := hD.res.c2
              obtain ⟨e0, e1⟩ := hD.box.c2
              have lbg := hD.box.lt
              have hF := Lib.hid hD.fin
              clear hD
              go_wp2
              refine bodyPost_ret (v := .agg #[.int .i64 ge, _]) (by simp [results, Try.results16, go_sem, r0, r1]) rfl ⟨_, _, _, rfl, by omega, by omega, by omega, hF.out.1, hF.out.2⟩
          · have hl40 : gp'.length ≤ 40 := by omega
            have f0 := hD.res.frozen 0
            have f1 := hD.res.frozen 1
            have lb2 := hD.res.lt
            obtain ⟨r0, r1⟩ := hD.res.c2
            obtain ⟨e0, e1⟩ := hD.box.c2
            have lbg := hD.box.lt
            have hF := Lib.hid hD.fin
            clear hD
            go_wp2
            refine bodyPost_ret (v := .agg #[.int .i64 ge, _]) (by simp [results, Try.results16, go_sem, r0, r1]) rfl ⟨_, _, _, rfl, by omega, by omega, by omega, hF.out.1, hF.out.2⟩
        · have hq : (x == 0) = false := by simpa using hx0
          clear hx0
          have hl40 : gp'.length ≤ 40 := by omega
          have f0 := hD.res.frozen 0
          have f1 := hD.res.frozen 1
          have lb2 := hD.res.lt
          obtain ⟨r0, r1⟩ := hD.res.c2
          obtain ⟨e0, e1⟩ := hD.box.c2
          have lbg := hD.box.lt
          have hF := Lib.hid hD.fin
          clear hD
          go_wp2
          refine bodyPost_ret (v := .agg #[.int .i64 ge, _]) (by simp [results, Try.results16, go_sem, r0, r1]) rfl ⟨_, _, _, rfl, by omega, by omega, by omega, hF.out.1, hF.out.2⟩
  · have lbg := hbx.lt
    obtain ⟨e0, e1⟩ := hbx.c2
    have hD := hDall gp.length (Nat.le_refl _)
    have hn : (gp.take gp.length).length = gp.length := by simp
    have hn12 : gp.length ≤ 12 := by omega
    go_wp2
    rw [hbg] at hD
    clear lbg e0 e1 hbx hDall hbg hcl hgt
    generalize w2.alloc (.cells #[.int .i64 ge, .slice A gp.length c] 26) = W3 at *
    generalize gp.take gp.length = gq at *
    generalize gp.length = m at *
    go_loopw [5] (fun i wr => ∃ (k : Nat) (gp' : List Place), k ≤ m ∧ i = .int .i64 k ∧ gp'.length = m ∧ Dt w g b2 bg wr ge (.slice A m c) gp') (fun i _ => m - (intOf i).toNat)
    case atStart => exact ⟨0, gq, Nat.zero_le _, rfl, hn, hD⟩
    case round =>
      clear hD
      obtain ⟨k, gp', hk, rfl, hl', hD⟩ := hrel
      obtain ⟨e0, e1⟩ := hD.box.c2
      have lbg := hD.box.lt
      by_cases hlt : k < m
      · have hk' : k < gp'.length := by omega
        obtain ⟨bo, c', hu, _, hbl, hfz, hcell⟩ := hD.own.at_ Place.cells_len k hk'
        obtain rfl : A = some ⟨bo, 0, none⟩ := by injection hu
        have hc3 := hcell 3 (.int .i64 gp'[k].tokens) (by omega) rfl
        have hDn := Lib.hid (hD.tok k hk' 2)
        have hDo := Lib.hid hD
        have hfr := hfz (k * 4 + 3)
        clear hu hcell hD hfz
        obtain ⟨tk, htk⟩ : ∃ tk, gp'[k].tokens = tk := ⟨_, rfl⟩
        rw [htk] at hc3
        have i1 : (0 : Int) ≤ (k : Int) := by omega
        have i2 : (k : Int) < ((m : Nat) : Int) := by omega
        by_cases h2 : (2 : Int) < tk
        · go_wp2
          go_roundw
          case rel => exact ⟨k + 1, _, hlt, by go_num, by simpa using hl', hDn.out⟩
          case measure => simp [intOf]; omega
        · go_wp2
          go_roundw
          case rel => exact ⟨k + 1, gp', hlt, by go_num, hl', hDo.out⟩
          case measure => simp [intOf]; omega
      · obtain rfl : m = k := by omega
        go_wp2_with fail
        clear e0 e1 lbg
        refine (spec_l01Next g 2 _ hD.src (by omega)).mono ?_
        rintro e wa ⟨x, rfl, hx, hN⟩
        replace hD := hD.draw hN
        clear hN hx
        obtain ⟨e0, e1⟩ := hD.box.c2
        have lbg := hD.box.lt
        by_cases hx0 : x = 0
        · have hq : (x == 0) = true := by simp [hx0]
          clear hx0
          by_cases hg1 : (1 : Int) < ge
          · by_cases hg6 : ge < 6
            · go_wp2
              clear e0 e1 lbg
              go_loopw [6] (fun ev wr => ∃ (k : Nat) (A' : Option Addr) (c' m' : Nat) (gr : List Place), ev = .int .i64 k ∧ (k : Int) ≤ ge ∧ Hid (m' = m + k) ∧ gr.length = m' ∧ Dt w g b2 bg wr ge (.slice A' m' c') gr) (fun ev _ => 20 - (intOf ev).toNat)
              case atStart => exact ⟨0, _, _, m, gp', rfl, by omega, Lib.hid (by omega), hl', hD⟩
              case round =>
                clear hD hl'
                obtain ⟨k, A', c', m', gr, rfl, hkg, hm', hgr, hD⟩ := hrel
                by_cases hlt2 : (k : Int) < ge
                · obtain ⟨D, hDd⟩ : ∃ D, Int.tmod ((k : Int) + 1) ge = D := ⟨_, rfl⟩
                  obtain ⟨T, hT⟩ : ∃ T, Int.tdiv ((k : Int) + 1) ge = T := ⟨_, rfl⟩
                  have hlenA : gr.length + [(⟨k, D, 0, T⟩ : Place)].length ≤ 1099511627776 := by simp; have := hm'.out; omega
                  have hLL : Hid ((gr ++ [(⟨k, D, 0, T⟩ : Place)]).length = m' + 1) := by show _ = _; simp; omega
                  have hwk : IntKind.i64.wrap ((k : Int) + 1) = (k : Int) + 1 := IntWalk.i64_in _ (by omega)
                  have hgz : ¬ (ge = 0) := by omega
                  have hTb : 0 ≤ T ∧ T ≤ 6 := by rw [← hT]; exact ⟨Int.tdiv_nonneg (by omega) (by omega), Int.le_trans (Int.tdiv_le_self _ (by omega)) (by omega)⟩
                  have hwT : IntKind.i64.wrap T = T := IntWalk.i64_in _ (by omega)
                  clear hTb
                  have hgrH := Lib.hid hgr
                  clear hgr
                  obtain ⟨e0, e1⟩ := hD.box.c2
                  have lbg := hD.box.lt
                  go_wp2_with fail
                  clear e0 e1 lbg
                  replace hD := hD.now (Below.drew (Below.refl _ wr))
                  refine wp_region_E (fun w' => w'.cell? ⟨bg, 0, none⟩ = some (.int .i64 ge) ∧ w'.cell? ⟨bg, 1, none⟩ = some (.slice A' m' c')) 17 (by kernel_rfl) ?_
                  have hS0 : (fun w' : World => w'.cell? ⟨bg, 0, none⟩ = some (.int .i64 ge) ∧ w'.cell? ⟨bg, 1, none⟩ = some (.slice A' m' c')) wr.drew := ⟨hD.evs, hD.pls⟩
                  clear hS0
                  generalize wr.drew = V0 at *
                  have hS0 : (fun w' : World => w'.cell? ⟨bg, 0, none⟩ = some (.int .i64 ge) ∧ w'.cell? ⟨bg, 1, none⟩ = some (.slice A' m' c')) V0 := ⟨hD.evs, hD.pls⟩
                  refine wpAnyE_take (i := 0) (v := ?_) rfl (by kernel_rfl) (by kernel_rfl) (by kernel_rfl) (by kernel_rfl) (by kernel_rfl) (fun _ _ _ h => h) hS0 (by rfl) ?_ ?_
                  rotate_left
                  · intro w9 hSw
                    try dsimp only at hSw
                    obtain ⟨s0, s1⟩ := hSw
                    go_simp
                    try with_reducible rfl
                  try simp only [Act.put, List.setIfInBounds_toArray, List.set_cons_zero, List.set_cons_succ]
                  refine wpAnyE_take (i := 1) (v := ?_) rfl (by kernel_rfl) (by kernel_rfl) (by kernel_rfl) (by kernel_rfl) (by kernel_rfl) (fun _ _ _ h => h) hS0 (by rfl) ?_ ?_
                  rotate_left
                  · intro w9 hSw
                    try dsimp only at hSw
                    obtain ⟨s0, s1⟩ := hSw
                    go_simp
                    try with_reducible rfl
                  try simp only [Act.put, List.setIfInBounds_toArray, List.set_cons_zero, List.set_cons_succ]
                  refine wpAnyE_take (i := 2) (v := ?_) rfl (by kernel_rfl) (by kernel_rfl) (by kernel_rfl) (by kernel_rfl) (by kernel_rfl) (fun _ _ _ h => h) hS0 (by rfl) ?_ ?_
                  rotate_left
                  · intro w9 hSw
                    try dsimp only at hSw
                    obtain ⟨s0, s1⟩ := hSw
                    go_simp
                    try with_reducible rfl
                  try simp only [Act.put, List.setIfInBounds_toArray, List.set_cons_zero, List.set_cons_succ]
                  refine wpAnyE_take (i := 3) (v := ?_) rfl (by kernel_rfl) (by kernel_rfl) (by kernel_rfl) (by kernel_rfl) (by kernel_rfl) (fun _ _ _ h => h) hS0 (by rfl) ?_ ?_
                  rotate_left
                  · intro w9 hSw
                    try dsimp only at hSw
                    obtain ⟨s0, s1⟩ := hSw
                    go_simp
                    try with_reducible rfl
                  try simp only [Act.put, List.setIfInBounds_toArray, List.set_cons_zero, List.set_cons_succ]
                  refine wpAnyE_take (i := 4) (v := ?_) rfl (by kernel_rfl) (by kernel_rfl) (by kernel_rfl) (by kernel_rfl) (by kernel_rfl) (fun _ _ _ h => h) hS0 (by rfl) ?_ ?_
                  rotate_left
                  · intro w9 hSw
                    try dsimp only at hSw
                    obtain ⟨s0, s1⟩ := hSw
                    go_simp
                    try with_reducible rfl
                  try simp only [Act.put, List.setIfInBounds_toArray, List.set_cons_zero, List.set_cons_succ]
                  refine wpAnyE_take (i := 5) (v := ?_) rfl (by kernel_rfl) (by kernel_rfl) (by kernel_rfl) (by kernel_rfl) (by kernel_rfl) (fun _ _ _ h => h) hS0 (by rfl) ?_ ?_
                  rotate_left
                  · intro w9 hSw
                    try dsimp only at hSw
                    obtain ⟨s0, s1⟩ := hSw
                    go_simp
                    try with_reducible rfl
                  try simp only [Act.put, List.setIfInBounds_toArray, List.set_cons_zero, List.set_cons_succ]
                  refine wpAnyE_take (i := 6) (v := ?_) rfl (by kernel_rfl) (by kernel_rfl) (by kernel_rfl) (by kernel_rfl) (by kernel_rfl) (fun _ _ _ h => h) hS0 (by rfl) ?_ ?_
                  rotate_left
                  · intro w9 hSw
                    try dsimp only at hSw
                    obtain ⟨s0, s1⟩ := hSw
                    go_simp
                    try with_reducible rfl
                  try simp only [Act.put, List.setIfInBounds_toArray, List.set_cons_zero, List.set_cons_succ]
                  refine wpAnyE_take (i := 7) (v := ?_) rfl (by kernel_rfl) (by kernel_rfl) (by kernel_rfl) (by kernel_rfl) (by kernel_rfl) (fun _ _ _ h => h) hS0 (by rfl) ?_ ?_
                  rotate_left
                  · intro w9 hSw
                    try dsimp only at hSw
                    obtain ⟨s0, s1⟩ := hSw
                    go_simp
                    try with_reducible rfl
                  try simp only [Act.put, List.setIfInBounds_toArray, List.set_cons_zero, List.set_cons_succ]
                  refine wpAnyE_take (i := 8) (v := ?_) rfl (by kernel_rfl) (by kernel_rfl) (by kernel_rfl) (by kernel_rfl) (by kernel_rfl) (fun _ _ _ h => h) hS0 (by rfl) ?_ ?_
                  rotate_left
                  · intro w9 hSw
                    try dsimp only at hSw
                    obtain ⟨s0, s1⟩ := hSw
                    go_simp
                    try with_reducible rfl
                  try simp only [Act.put, List.setIfInBounds_toArray, List.set_cons_zero, List.set_cons_succ]
                  refine wpAnyE_take (i := 9) (v := ?_) rfl (by kernel_rfl) (by kernel_rfl) (by kernel_rfl) (by kernel_rfl) (by kernel_rfl) (fun _ _ _ h => h) hS0 (by rfl) ?_ ?_
                  rotate_left
                  · intro w9 hSw
                    try dsimp only at hSw
                    obtain ⟨s0, s1⟩ := hSw
                    go_simp
                    try with_reducible rfl
                  try simp only [Act.put, List.setIfInBounds_toArray, List.set_cons_zero, List.set_cons_succ]
                  refine wpAnyE_take (i := 10) (v := ?_) rfl (by kernel_rfl) (by kernel_rfl) (by kernel_rfl) (by kernel_rfl) (by kernel_rfl) (fun _ _ _ h => h) hS0 (by rfl) ?_ ?_
                  rotate_left
                  · intro w9 hSw
                    try dsimp only at hSw
                    obtain ⟨s0, s1⟩ := hSw
                    go_simp
                    try with_reducible rfl
                  try simp only [Act.put, List.setIfInBounds_toArray, List.set_cons_zero, List.set_cons_succ]
                  refine wpAnyE_take (i := 11) (v := ?_) rfl (by kernel_rfl) (by kernel_rfl) (by kernel_rfl) (by kernel_rfl) (by kernel_rfl) (fun _ _ _ h => h) hS0 (by rfl) ?_ ?_
                  rotate_left
                  · intro w9 hSw
                    try dsimp only at hSw
                    obtain ⟨s0, s1⟩ := hSw
                    go_simp
                    try with_reducible rfl
                  try simp only [Act.put, List.setIfInBounds_toArray, List.set_cons_zero, List.set_cons_succ]
                  refine wpAnyE_take (i := 12) (v := ?_) rfl (by kernel_rfl) (by kernel_rfl) (by kernel_rfl) (by kernel_rfl) (by kernel_rfl) (fun _ _ _ h => h) hS0 (by rfl) ?_ ?_
                  rotate_left
                  · intro w9 hSw
                    try dsimp only at hSw
                    obtain ⟨s0, s1⟩ := hSw
                    go_simp
                    try with_reducible rfl
                  try simp only [Act.put, List.setIfInBounds_toArray, List.set_cons_zero, List.set_cons_succ]
                  refine wpAnyE_take (i := 13) (v := ?_) rfl (by kernel_rfl) (by kernel_rfl) (by kernel_rfl) (by kernel_rfl) (by kernel_rfl) (fun _ _ _ h => h) hS0 (by rfl) ?_ ?_
                  rotate_left
                  · intro w9 hSw
                    try dsimp only at hSw
                    obtain ⟨s0, s1⟩ := hSw
                    go_simp
                    try with_reducible rfl
                  try simp only [Act.put, List.setIfInBounds_toArray, List.set_cons_zero, List.set_cons_succ]
                  refine wpAnyE_one (i := 14) rfl (by kernel_rfl) (fun K hK => ?_)
                  have hZ2 : Below V0.heap.size V0 (V0.alloc (.cells #[.int .i64 k, .int .i64 D, .int .i64 0, .int .i64 T] 47)) := (Below.refl _ _).alloc (Nat.le_refl _) _
                  have hLst := lst_new1 Place.cells 4 Place.cells_len V0 47 (⟨k, D, 0, T⟩ : Place) _ rfl _ rfl
                  replace hD := hD.now hZ2
                  go_simp
                  refine hK.out _ _ (fun _ => ⟨hD.evs, hD.pls⟩) ?_
                  clear hK K
                  try simp only [Act.put, List.setIfInBounds_toArray, List.set_cons_zero, List.set_cons_succ]
                  refine wpAnyE_one (i := 15) rfl (by kernel_rfl) (fun K hK => ?_)
                  have hbsQ := hD.src.lt
                  refine step_append_lst rfl _ _ 24 rfl Place.cells 4 Place.cells_one (by omega) (g + 1) 47 _ 32 Try.underlying24 info_place rfl (.slice A' m' c') gr rfl hD.own _ _ _ _ [(⟨k, D, 0, T⟩ : Place)] rfl hLst hlenA (by omega) hbsQ ?_
                  intro v' w9 hO1 hG1 hD1
                  obtain ⟨V1, cv1, rfl⟩ := own_shape_n hO1 hLL.out
                  have hbx := hD.box.grown hG1 (fun e => hD.own.ne_blk hD.box (by decide) e.symm)
                  obtain ⟨f0, f1⟩ := hbx.f2
                  have l9 := hbx.lt
                  obtain ⟨b0, b1⟩ := hbx.c2
                  have hDn := Lib.hid (hD.app hG1 hO1)
                  refine hK.out _ _ (fun _ => ⟨b0, b1⟩) ?_
                  clear hK K
                  try simp only [Act.put, List.setIfInBounds_toArray, List.set_cons_zero, List.set_cons_succ]
                  refine wpAnyE_one (i := 16) rfl (by kernel_rfl) (fun K hK => ?_)
                  go_simp
                  refine hK.out _ _ (fun _ => ⟨b0, b1⟩) ?_
                  clear hK K
                  try simp only [Act.put, List.setIfInBounds_toArray, List.set_cons_zero, List.set_cons_succ]
                  refine wpAnyE_one (i := 17) rfl (by kernel_rfl) (fun K hK => ?_)
                  go_simp
                  refine hK.out _ _ (fun h => absurd rfl h) ?_
                  clear hK K
                  try simp only [Act.put, List.setIfInBounds_toArray, List.set_cons_zero, List.set_cons_succ]
                  refine wpAnyE_done (by kernel_rfl) ?_
                  clear hS0
                  go_wp2
                  go_roundw
                  case rel => exact ⟨k + 1, V1, cv1, m' + 1, gr ++ [(⟨k, D, 0, T⟩ : Place)], by go_num, by omega, Lib.hid (by have := hm'.out; omega), hLL.out, hDn.out⟩
                  case measure => simp [intOf]; omega
                · have hl40 : gr.length ≤ 40 := by have := hm'.out; omega
                  have f0 := hD.res.frozen 0
                  have f1 := hD.res.frozen 1
                  have lb2 := hD.res.lt
                  obtain ⟨r0, r1⟩ := hD.res.c2
                  obtain ⟨e0, e1⟩ := hD.box.c2
                  have lbg := hD.box.lt
                  have hF := Lib.hid hD.fin
                  clear hD
                  go_wp2
                  refine bodyPost_ret (v := .agg #[.int .i64 ge, _]) (by simp [results, Try.results16, go_sem, r0, r1]) rfl ⟨_, _, _, rfl, by omega, by omega, by omega, hF.out.1, hF.out.2⟩
            · have hl40 : gp'.length ≤ 40 := by omega
              have f0 := hD.res.frozen 0
              have f1 := hD.res.frozen 1
              have lb2 := hD.res.lt
              obtain ⟨r0, r1⟩ := hD.res.c2
              obtain ⟨e0, e1⟩ := hD.box.c2
              have lbg := hD.box.lt
              have hF := Lib.hid hD.fin
              clear hD
              go_wp2
              refine bodyPost_ret (v := .agg #[.int .i64 ge, _]) (by simp [results, Try.results16, go_sem, r0, r1]) rfl ⟨_, _, _, rfl, by omega, by omega, by omega, hF.out.1, hF.out.2⟩
          · have hl40 : gp'.length ≤ 40 := by omega
            have f0 := hD.res.frozen 0
            have f1 := hD.res.frozen 1
            have lb2 := hD.res.lt
            obtain ⟨r0, r1⟩ := hD.res.c2
            obtain ⟨e0, e1⟩ := hD.box.c2
            have lbg := hD.box.lt
            have hF := Lib.hid hD.fin
            clear hD
            go_wp2
            refine bodyPost_ret (v := .agg #[.int .i64 ge, _]) (by simp [results, Try.results16, go_sem, r0, r1]) rfl ⟨_, _, _, rfl, by omega, by omega, by omega, hF.out.1, hF.out.2⟩
        · have hq : (x == 0) = false := by simpa using hx0
          clear hx0
          have hl40 : gp'.length ≤ 40 := by omega
          have f0 := hD.res.frozen 0
          have f1 := hD.res.frozen 1
          have lb2 := hD.res.lt
          obtain ⟨r0, r1⟩ := hD.res.c2
          obtain ⟨e0, e1⟩ := hD.box.c2
          have lbg := hD.box.lt
          have hF := Lib.hid hD.fin
          clear hD
          go_wp2
          refine bodyPost_ret (v := .agg #[.int .i64 ge, _]) (by simp [results, Try.results16, go_sem, r0, r1]) rfl ⟨_, _, _, rfl, by omega, by omega, by omega, hF.out.1, hF.out.2⟩
end Go.Proofs.Ythamppcpjmnnkaa
