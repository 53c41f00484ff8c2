/-
  The walk of the draw of a graph and counts.
-/
import Derived.Test.YtilfjfjoppecgaaDrB
namespace Go.Proofs.Ytilfjfjoppecgaa
open Go.RowKit
set_option linter.unusedVariables false
set_option linter.unusedSimpArgs false
theorem blk_draw {W W' : World} {g b : Nat} {t : TypeId} {cs : Array Value} (h : Blk W b t cs) (ht : t ≠ 125) (hs : Src W g) (hN : Drawn W g W') : Blk W' b t cs := by
  obtain ⟨ds, hd⟩ := hs.blk
  exact h.grown hN.2 (fun e => blk_ne h hd ht (by injection e))
theorem own_draw {α : Type} {f : α → List Value} {size base : Nat} {e : TypeId} {W W' : World} {g : Nat} {v : Value} {l : List α} (h : Own f size e W base v l) (ht : e ≠ 125) (hs : Src W g) (hN : Drawn W g W') : Own f size e W' base v l := by
  obtain ⟨ds, hd⟩ := hs.blk
  exact own_kept (u := .slice (some ⟨g, 0, none⟩) 0 0) h hN.2 (fun k a b => h.ne_blk hd ht (by rw [a]; exact b.symm))
theorem own_ne_own {α β : Type} {f : α → List Value} {f' : β → List Value} {s s' b b' : Nat} {e e' : TypeId} {W : World} {v v' : Value} {l : List α} {l' : List β} (h1 : Own f s e W b v l) (h2 : Own f' s' e' W b' v' l') (hne : e ≠ e') :
    ∀ k, v.ownBlock = some k → v'.ownBlock = some k → False := by
  intro k a b
  rcases h2.2 with ⟨rfl, _⟩ | ⟨g, cap, cur, rfl, _, hg, _⟩
  · cases b
  · injection b with b
    subst b
    exact h1.ne_blk (t := e') (cs := cur) hg hne a
theorem below_draw {B g : Nat} {w W W' : World} (h : Below B w W) (hB : B ≤ W.heap.size) (hg : B ≤ g) (hN : Drawn W g W') : Below B w W' := h.grown hN.2 hB (fun k e => by injection e with e; omega)
set_option maxHeartbeats 4000000 in
set_option maxRecDepth 100000 in
theorem spec_DrawSequenceFor (cv : Value) (bs : List Int) (w : World) (h0 : Lst byteCell 1 w w.heap.size cv bs) (hbv : Hid (∀ b ∈ bs, 0 ≤ b ∧ b ≤ 255)) :
    Calls Try.prog 12 #[cv] w fun e w' => ∃ ge gp v u l, e = .returned (.tuple #[.agg #[.int .i64 ge, v], u]) ∧ 0 ≤ ge ∧ ge ≤ 11 ∧ gp.length ≤ 40 ∧ l.length ≤ 20 ∧ Own Place.cells 4 34 w' w.heap.size v gp ∧ Own intCell 1 2 w' w.heap.size u l ∧ Below w.heap.size w w' := by
  go_enter Try.func12, Try.ntmps12
  go_wp2_with fail
  have hA : Below w.heap.size w (w.alloc (.cells #[.int .i64 0, .slice none 0 0] 26)) := (Below.refl _ _).alloc (Nat.le_refl _) _
  have hres := Blk.newAt w (t := 26) (cs := #[.int .i64 0, .slice none 0 0]) _ rfl
  have hszA : (w.alloc (.cells #[.int .i64 0, .slice none 0 0] 26)).heap.size = w.heap.size + 1 := by simp
  refine (spec_l01From _ bs _ (h0.now hA) hbv).mono ?_
  rintro e w1 ⟨rfl, hS, hB1⟩
  rw [hszA] at hS hB1 ⊢
  have hB : Below w.heap.size w w1 := hA.trans (hB1.mono (by omega))
  replace hres := hres.below hB1 (by omega)
  obtain ⟨b2, hb2⟩ : ∃ b2, w.heap.size = b2 := ⟨_, rfl⟩
  obtain ⟨g, hg⟩ : ∃ g, w.heap.size + 1 = g := ⟨_, rfl⟩
  have hgb : w.heap.size ≤ g := by omega
  rw [hg] at hS ⊢
  rw [hb2] at hres
  rw [show (Value.pointer (some ⟨w.heap.size, 0, none⟩)) = .pointer (some ⟨b2, 0, none⟩) by rw [hb2]]
  have hb2w : w.heap.size ≤ b2 := by omega
  have hs1 := hB.size
  clear hA hszA hB1 hb2 hg
  go_wp2_with fail
  refine (spec_l12Draw g _ hS).mono ?_
  rintro e w2 ⟨ge, gp, v, rfl, hg0, hg1, hlen, hO, hN⟩
  obtain ⟨A, c, rfl⟩ := hO.shape
  replace hO := hO.rebase hs1
  replace hres := blk_draw hres (by decide) hS hN
  replace hB := below_draw hB hs1 hgb hN
  replace hS := hN.1
  have hs2 := hB.size
  clear hN hs1
  have hA2 : Below w2.heap.size w2 ((w2.alloc (.cells #[.int .i64 ge, .slice A gp.length c] 26)).alloc (.cells #[] 2)) := ((Below.refl _ _).alloc (Nat.le_refl _) _).alloc (by simp) _
  have hbox := (Blk.newAt w2 (t := 26) (cs := #[.int .i64 ge, .slice A gp.length c]) _ rfl).alloc (.cells #[] 2)
  have hU : Own intCell 1 2 ((w2.alloc (.cells #[.int .i64 ge, .slice A gp.length c] 26)).alloc (.cells #[] 2)) (g + 1) (.slice (some ⟨w2.heap.size + 1, 0, none⟩) 0 0) ([] : List Int) := by
    have hSl := hS.lt
    have := own_new0 intCell 1 (w2.alloc (.cells #[.int .i64 ge, .slice A gp.length c] 26)) 2 (g + 1) (by simp; omega)
    simpa using this
  go_wp2_with fail
  replace hO := hO.now hA2
  replace hres := hres.now hA2
  replace hB := hB.trans (hA2.mono hs2)
  replace hS := hS.now hA2
  refine (spec_l01Next g 5 _ hS (by omega)).mono ?_
  rintro e w3 ⟨nn, rfl, hnn, hN⟩
  replace hO := own_draw hO (by decide) hS hN
  replace hU := own_draw hU (by decide) hS hN
  replace hres := blk_draw hres (by decide) hS hN
  replace hbox := blk_draw hbox (by decide) hS hN
  replace hB := below_draw hB hB.size hgb hN
  replace hS := hN.1
  have hn5 : nn < 5 := hnn.2.1 (by omega)
  have hn0 := hnn.1
  obtain ⟨bg, hbg⟩ : ∃ bg, w2.heap.size = bg := ⟨_, rfl⟩
  rw [hbg] at hbox hU ⊢
  clear hN hnn hA2 hs2 hbg
  have l0 := hbox.lt
  obtain ⟨e0, e1⟩ := hbox.c2
  go_wp2
  clear l0 e0 e1
  go_loopw [6, 8] (fun uv ev wr => ∃ (k : Nat) (l : List Int), ev = .int .i64 k ∧ (k : Int) ≤ ge ∧ l.length = k ∧ Own Place.cells 4 34 wr w.heap.size (.slice A gp.length c) gp ∧ Own intCell 1 2 wr (g + 1) uv l ∧ Blk wr b2 26 #[.int .i64 0, .slice none 0 0] ∧ Blk wr bg 26 #[.int .i64 ge, .slice A gp.length c] ∧ Below w.heap.size w wr ∧ Src wr g) (fun _ ev _ => 20 - (intOf ev).toNat)
  case atStart => exact ⟨0, [], rfl, by omega, rfl, hO, hU, hres, hbox, hB, hS⟩
  case round =>
    clear hO hU hres hbox hB hS
    obtain ⟨k, l, rfl, hk, hl, hO, hU, hres, hbox, hB, hS⟩ := hrel
    obtain ⟨Y, cy, rfl⟩ := own_shape_n hU hl
    have l0 := hbox.lt
    obtain ⟨e0, e1⟩ := hbox.c2
    by_cases hlt : (k : Int) < ge
    · go_wp2_with fail
      refine (spec_l01Next g 3 _ hS (by omega)).mono ?_
      rintro e wa ⟨x3, rfl, hx3, hN⟩
      replace hO := own_draw hO (by decide) hS hN
      replace hU := own_draw hU (by decide) hS hN
      replace hres := blk_draw hres (by decide) hS hN
      replace hbox := blk_draw hbox (by decide) hS hN
      replace hB := below_draw hB hB.size hgb hN
      replace hS := hN.1
      have h31 := hx3.1
      have h32 : x3 < 3 := hx3.2.1 (by omega)
      clear hN hx3 e0 e1 l0
      have wm1 : IntKind.i64.wrap (nn + x3) = nn + x3 := IntWalk.i64_in _ (by omega)
      have wm2 : IntKind.i64.wrap (nn + x3 - 1) = nn + x3 - 1 := IntWalk.i64_in _ (by omega)
      have hs3 := hB.size
      have hSl := hS.lt
      have hlenA : ∀ y : Int, l.length + [y].length ≤ 1099511627776 := by intro y; simp; omega
      by_cases hp : (0 : Int) < nn + x3 - 1
      · have l0 := hbox.lt
        obtain ⟨e0, e1⟩ := hbox.c2
        have hZ : Below wa.heap.size wa (wa.alloc (.cells #[.int .i64 (nn + x3 - 1)] 2)) := (Below.refl _ _).alloc (Nat.le_refl _) _
        have hO9' := Lib.hid (hO.now hZ)
        have hU9' := Lib.hid (hU.now hZ)
        have hr9' := Lib.hid (hres.now hZ)
        have hx9' := Lib.hid (hbox.now hZ)
        have hS9' := Lib.hid (hS.now hZ)
        have hB9' := Lib.hid (hB.trans (hZ.mono hB.size))
        have hLL : Hid ((l ++ [(nn + x3 - 1 : Int)]).length = k + 1) := by show _ = _; simp [hl]
        clear hO hU hres hbox hB hS
        go_wp2_with (at_builtin; refine wpList_append_lst rfl _ _ 27 rfl intCell 1 intCell_one (by omega) (g + 1) 2 _ 8 Try.underlying27 info_i64 rfl _ _ rfl hU9'.out _ _ _ _ [nn + x3 - 1] rfl (lst_new1 _ _ intCell_len _ _ _ _ rfl _ (by simp)) (hlenA _) (by omega) (Nat.le_of_lt (by simp; omega)) ?_; intro v' w9 hO1 hG1 hD1; obtain ⟨V1, cv1, rfl⟩ := own_shape_n hO1 hLL.out; have hO9 := own_kept hO9'.out hG1 (own_ne_own hO9'.out hU9'.out (by decide)); have hr9 := hr9'.out.grown hG1 (fun e => hU9'.out.ne_blk hr9'.out (by decide) e.symm); have hx9 := hx9'.out.grown hG1 (fun e => hU9'.out.ne_blk hx9'.out (by decide) e.symm); have hS9 := hS9'.out.kept hG1 (fun k e => by have := (hU9'.out.lt k e).1; omega); have hB9 := hB9'.out.grown hG1 hB9'.out.size (fun k e => by have := (hU9'.out.lt k e).1; omega))
        go_roundw
        case rel => exact ⟨k + 1, l ++ [nn + x3 - 1], by go_num, by omega, hLL.out, hO9, hO1, hr9, hx9, hB9, hS9⟩
        case measure => simp [intOf]; omega
      · have l0 := hbox.lt
        obtain ⟨e0, e1⟩ := hbox.c2
        have hZ : Below wa.heap.size wa (wa.alloc (.cells #[.int .i64 (0)] 2)) := (Below.refl _ _).alloc (Nat.le_refl _) _
        have hO9' := Lib.hid (hO.now hZ)
        have hU9' := Lib.hid (hU.now hZ)
        have hr9' := Lib.hid (hres.now hZ)
        have hx9' := Lib.hid (hbox.now hZ)
        have hS9' := Lib.hid (hS.now hZ)
        have hB9' := Lib.hid (hB.trans (hZ.mono hB.size))
        have hLL : Hid ((l ++ [(0 : Int)]).length = k + 1) := by show _ = _; simp [hl]
        clear hO hU hres hbox hB hS
        go_wp2_with (at_builtin; refine wpList_append_lst rfl _ _ 27 rfl intCell 1 intCell_one (by omega) (g + 1) 2 _ 8 Try.underlying27 info_i64 rfl _ _ rfl hU9'.out _ _ _ _ [0] rfl (lst_new1 _ _ intCell_len _ _ _ _ rfl _ (by simp)) (hlenA _) (by omega) (Nat.le_of_lt (by simp; omega)) ?_; intro v' w9 hO1 hG1 hD1; obtain ⟨V1, cv1, rfl⟩ := own_shape_n hO1 hLL.out; have hO9 := own_kept hO9'.out hG1 (own_ne_own hO9'.out hU9'.out (by decide)); have hr9 := hr9'.out.grown hG1 (fun e => hU9'.out.ne_blk hr9'.out (by decide) e.symm); have hx9 := hx9'.out.grown hG1 (fun e => hU9'.out.ne_blk hx9'.out (by decide) e.symm); have hS9 := hS9'.out.kept hG1 (fun k e => by have := (hU9'.out.lt k e).1; omega); have hB9 := hB9'.out.grown hG1 hB9'.out.size (fun k e => by have := (hU9'.out.lt k e).1; omega))
        go_roundw
        case rel => exact ⟨k + 1, l ++ [0], by go_num, by omega, hLL.out, hO9, hO1, hr9, hx9, hB9, hS9⟩
        case measure => simp [intOf]; omega
    · go_wp2_with fail
      refine (spec_l01Next g 30 _ hS (by omega)).mono ?_
      rintro e wa ⟨y, rfl, hy, hN⟩
      replace hO := own_draw hO (by decide) hS hN
      replace hU := own_draw hU (by decide) hS hN
      replace hres := blk_draw hres (by decide) hS hN
      replace hbox := blk_draw hbox (by decide) hS hN
      replace hB := below_draw hB hB.size hgb hN
      replace hS := hN.1
      clear hN hy e0 e1 l0
      have hs3 := hB.size
      have hSl := hS.lt
      have hlenA : ∀ y : Int, l.length + [y].length ≤ 1099511627776 := by intro y; simp; omega
      by_cases hy0 : y = 0
      · subst hy0
        have l0 := hbox.lt
        obtain ⟨e0, e1⟩ := hbox.c2
        have hZ : Below wa.heap.size wa (wa.alloc (.cells #[.int .i64 (0)] 2)) := (Below.refl _ _).alloc (Nat.le_refl _) _
        have hO9' := Lib.hid (hO.now hZ)
        have hU9' := Lib.hid (hU.now hZ)
        have hr9' := Lib.hid (hres.now hZ)
        have hx9' := Lib.hid (hbox.now hZ)
        have hS9' := Lib.hid (hS.now hZ)
        have hB9' := Lib.hid (hB.trans (hZ.mono hB.size))
        have hLL : Hid ((l ++ [(0 : Int)]).length = k + 1) := by show _ = _; simp [hl]
        clear hO hU hres hbox hB hS
        go_wp2_with (at_builtin; refine wpList_append_lst rfl _ _ 27 rfl intCell 1 intCell_one (by omega) (g + 1) 2 _ 8 Try.underlying27 info_i64 rfl _ _ rfl hU9'.out _ _ _ _ [0] rfl (lst_new1 _ _ intCell_len _ _ _ _ rfl _ (by simp)) (hlenA _) (by omega) (Nat.le_of_lt (by simp; omega)) ?_; intro v' w9 hO1 hG1 hD1; obtain ⟨V1, cv1, rfl⟩ := own_shape_n hO1 hLL.out; have hO9 := own_kept hO9'.out hG1 (own_ne_own hO9'.out hU9'.out (by decide)); have hr9 := hr9'.out.grown hG1 (fun e => hU9'.out.ne_blk hr9'.out (by decide) e.symm); have hx9 := hx9'.out.grown hG1 (fun e => hU9'.out.ne_blk hx9'.out (by decide) e.symm); have hS9 := hS9'.out.kept hG1 (fun k e => by have := (hU9'.out.lt k e).1; omega); have hB9 := hB9'.out.grown hG1 hB9'.out.size (fun k e => by have := (hU9'.out.lt k e).1; omega); clear e0 e1 l0; obtain ⟨e0, e1⟩ := hx9.c2; have l0 := hx9.lt; have f0 := hr9.frozen 0; have f1 := hr9.frozen 1; have lb2 := hr9.lt; obtain ⟨r0, r1⟩ := hr9.c2)
        have l0 := hx9.lt
        obtain ⟨e0, e1⟩ := hx9.c2
        have f0 := hr9.frozen 0
        have f1 := hr9.frozen 1
        have lb2 := hr9.lt
        obtain ⟨r0, r1⟩ := hr9.c2
        have hq1 := Lib.hid (own_far (own_far hO9 (p := ⟨b2, 0, none⟩) (hO9.ne_blk hr9 (by decide)) (.int .i64 ge)) (p := ⟨b2, 1, none⟩) (hO9.ne_blk hr9 (by decide)) (.slice A gp.length c))
        have hq2 := Lib.hid (Own.rebase (base' := w.heap.size) (own_far (own_far hO1 (p := ⟨b2, 0, none⟩) (hO1.ne_blk hr9 (by decide)) (.int .i64 ge)) (p := ⟨b2, 1, none⟩) (hO1.ne_blk hr9 (by decide)) (.slice A gp.length c)) (by omega))
        have hq3 := Lib.hid ((hB9.setCell (p := ⟨b2, 0, none⟩) hb2w (.int .i64 ge)).setCell (p := ⟨b2, 1, none⟩) hb2w (.slice A gp.length c))
        refine bodyPost_ret (v := .tuple #[.agg #[.int .i64 ge, .slice A gp.length c], _]) (by simp [results, Try.results12, go_sem, r0, r1]) rfl ⟨ge, gp, _, _, _, rfl, by omega, by omega, by omega, by first | omega | (simp; omega), hq1.out, hq2.out, hq3.out⟩
      · have q0 : (y == 0) = false := by simpa using hy0
        by_cases hy1 : y = 1
        · subst hy1
          by_cases hk0 : 0 < k
          · have l0 := hbox.lt
            obtain ⟨e0, e1⟩ := hbox.c2
            go_wp2_with fail
            clear l0 e0 e1
            have hZ : Below wa.heap.size wa (wa.alloc (.cells #[.int .i64 (-1), .int .i64 90, .int .i64 101] 2)) := (Below.refl _ _).alloc (Nat.le_refl _) _
            replace hO := hO.now hZ
            replace hU := hU.now hZ
            replace hres := hres.now hZ
            replace hbox := hbox.now hZ
            replace hB := hB.trans (hZ.mono hB.size)
            replace hS := hS.now hZ
            clear hZ
            refine (spec_l01Pick g wa.heap.size [-1, 90, 101] _ hS (Blk.newAt _ _ rfl) (by simp) (by simp)).mono ?_
            rintro e wk ⟨pk, hpk, rfl, hN⟩
            replace hO := own_draw hO (by decide) hS hN
            replace hU := own_draw hU (by decide) hS hN
            replace hres := blk_draw hres (by decide) hS hN
            replace hbox := blk_draw hbox (by decide) hS hN
            replace hB := below_draw hB hB.size hgb hN
            replace hS := hN.1
            clear hN hpk
            obtain ⟨bu, cu, hu, hub, hul, huf, _⟩ := hU.at_ intCell_len 0 (by omega)
            obtain rfl : Y = some ⟨bu, 0, none⟩ := by injection hu
            have hfu := huf 0
            have hU9 := hU.set1 0 (by omega) pk
            have hO9 : Own Place.cells 4 34 (wk.setCell ⟨bu, 0, none⟩ (.int .i64 pk)) w.heap.size (.slice A gp.length c) gp := own_far hO (p := ⟨bu, 0, none⟩) (fun e => own_ne_own hO hU (by decide) bu e rfl) (.int .i64 pk)
            have hr9 := hres.far (p := ⟨bu, 0, none⟩) (fun e => hU.ne_blk hres (by decide) (by rw [e]; rfl)) (.int .i64 pk)
            have hx9 := hbox.far (p := ⟨bu, 0, none⟩) (fun e => hU.ne_blk hbox (by decide) (by rw [e]; rfl)) (.int .i64 pk)
            have hB9 := hB.setCell (p := ⟨bu, 0, none⟩) (by show w.heap.size ≤ bu; omega) (.int .i64 pk)
            obtain ⟨_, _, _, hcu⟩ := own_ints_at hU 0 (by omega)
            clear hO hU hres hbox hB hS hu
            have l0 := hx9.lt
            obtain ⟨e0, e1⟩ := hx9.c2
            have f0 := hr9.frozen 0
            have f1 := hr9.frozen 1
            have lb2 := hr9.lt
            obtain ⟨r0, r1⟩ := hr9.c2
            have hq1 := Lib.hid (own_far (own_far hO9 (p := ⟨b2, 0, none⟩) (hO9.ne_blk hr9 (by decide)) (.int .i64 ge)) (p := ⟨b2, 1, none⟩) (hO9.ne_blk hr9 (by decide)) (.slice A gp.length c))
            have hq2 := Lib.hid (Own.rebase (base' := w.heap.size) (own_far (own_far hU9 (p := ⟨b2, 0, none⟩) (hU9.ne_blk hr9 (by decide)) (.int .i64 ge)) (p := ⟨b2, 1, none⟩) (hU9.ne_blk hr9 (by decide)) (.slice A gp.length c)) (by omega))
            have hq3 := Lib.hid ((hB9.setCell (p := ⟨b2, 0, none⟩) hb2w (.int .i64 ge)).setCell (p := ⟨b2, 1, none⟩) hb2w (.slice A gp.length c))
            go_wp2
            refine bodyPost_ret (v := .tuple #[.agg #[.int .i64 ge, .slice A gp.length c], _]) (by simp [results, Try.results12, go_sem, r0, r1]) rfl ⟨ge, gp, _, _, _, rfl, by omega, by omega, by omega, by first | omega | (simp; omega), hq1.out, hq2.out, hq3.out⟩
          · obtain rfl : k = 0 := by omega
            have hl0 : l.length = 0 := hl
            have l0 := hbox.lt
            obtain ⟨e0, e1⟩ := hbox.c2
            have f0 := hres.frozen 0
            have f1 := hres.frozen 1
            have lb2 := hres.lt
            obtain ⟨r0, r1⟩ := hres.c2
            have hq1 := Lib.hid (own_far (own_far hO (p := ⟨b2, 0, none⟩) (hO.ne_blk hres (by decide)) (.int .i64 ge)) (p := ⟨b2, 1, none⟩) (hO.ne_blk hres (by decide)) (.slice A gp.length c))
            have hq2 := Lib.hid (Own.rebase (base' := w.heap.size) (own_far (own_far hU (p := ⟨b2, 0, none⟩) (hU.ne_blk hres (by decide)) (.int .i64 ge)) (p := ⟨b2, 1, none⟩) (hU.ne_blk hres (by decide)) (.slice A gp.length c)) (by omega))
            have hq3 := Lib.hid ((hB.setCell (p := ⟨b2, 0, none⟩) hb2w (.int .i64 ge)).setCell (p := ⟨b2, 1, none⟩) hb2w (.slice A gp.length c))
            go_wp2
            refine bodyPost_ret (v := .tuple #[.agg #[.int .i64 ge, .slice A gp.length c], _]) (by simp [results, Try.results12, go_sem, r0, r1]) rfl ⟨ge, gp, _, _, _, rfl, by omega, by omega, by omega, by first | omega | (simp; omega), hq1.out, hq2.out, hq3.out⟩
        · have q1 : (y == 1) = false := by simpa using hy1
          clear hy0 hy1
          have l0 := hbox.lt
          obtain ⟨e0, e1⟩ := hbox.c2
          have f0 := hres.frozen 0
          have f1 := hres.frozen 1
          have lb2 := hres.lt
          obtain ⟨r0, r1⟩ := hres.c2
          have hq1 := Lib.hid (own_far (own_far hO (p := ⟨b2, 0, none⟩) (hO.ne_blk hres (by decide)) (.int .i64 ge)) (p := ⟨b2, 1, none⟩) (hO.ne_blk hres (by decide)) (.slice A gp.length c))
          have hq2 := Lib.hid (Own.rebase (base' := w.heap.size) (own_far (own_far hU (p := ⟨b2, 0, none⟩) (hU.ne_blk hres (by decide)) (.int .i64 ge)) (p := ⟨b2, 1, none⟩) (hU.ne_blk hres (by decide)) (.slice A gp.length c)) (by omega))
          have hq3 := Lib.hid ((hB.setCell (p := ⟨b2, 0, none⟩) hb2w (.int .i64 ge)).setCell (p := ⟨b2, 1, none⟩) hb2w (.slice A gp.length c))
          go_wp2
          refine bodyPost_ret (v := .tuple #[.agg #[.int .i64 ge, .slice A gp.length c], _]) (by simp [results, Try.results12, go_sem, r0, r1]) rfl ⟨ge, gp, _, _, _, rfl, by omega, by omega, by omega, by first | omega | (simp; omega), hq1.out, hq2.out, hq3.out⟩
end Go.Proofs.Ytilfjfjoppecgaa
