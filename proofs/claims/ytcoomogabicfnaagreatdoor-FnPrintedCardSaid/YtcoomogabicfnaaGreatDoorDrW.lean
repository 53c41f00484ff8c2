/-
  The draw of a graph that is printed, and its names.
-/
import Derived.Test.YtcoomogabicfnaaGreatDoorDrU
import Derived.Test.YtcoomogabicfnaaGreatDoorDrV
import Derived.Test.YtcoomogabicfnaaGreatDoorLinU
import Derived.Test.YtcoomogabicfnaaGreatDoorLinC
namespace Go.Proofs.YtcoomogabicfnaaGreatDoor
open Go.RowKit
set_option linter.unusedVariables false
set_option linter.unusedSimpArgs false
theorem sizes_snoc {l : List ByteArray} {t : ByteArray} {n : Nat} (h : Hid (∀ s ∈ l, s.size ≤ n)) (ht : t.size ≤ n) : Hid (∀ s ∈ l ++ [t], s.size ≤ n) := by
  intro s hs
  rcases List.mem_append.1 hs with hs | hs
  · exact h.out s hs
  · rw [List.mem_singleton.1 hs]; exact ht
set_option maxHeartbeats 16000000 in
set_option maxRecDepth 100000 in
theorem spec_DrawPrintText (cv : Value) (bs : List Int) (w : World) (h0 : Lst byteCell 1 w w.heap.size cv bs) (hbv : Hid (∀ b ∈ bs, 0 ≤ b ∧ b ≤ 255)) :
    Calls Tryz.prog 5 #[cv] w fun e w' => ∃ ge gp v u l, e = .returned (.tuple #[.agg #[.int .i64 ge, v], u]) ∧ gp.length ≤ 40 ∧ l.length ≤ 9 ∧ Hid (∀ s ∈ l, s.size ≤ 5) ∧ Own Place.cells 4 57 w' w.heap.size v gp ∧ Own strCell 1 9 w' w.heap.size u l ∧ Below w.heap.size w w' := by
  go_enter Tryz.func5, Tryz.ntmps5
  go_wp2_with fail
  have hA : Below w.heap.size w (w.alloc (.cells #[.int .i64 0, .slice none 0 0] 26)) := (Below.refl _ _).alloc (Nat.le_refl _) _
  have hres := Blk.newAt w (t := 26) (cs := #[.int .i64 0, .slice none 0 0]) _ rfl
  have hszA : (w.alloc (.cells #[.int .i64 0, .slice none 0 0] 26)).heap.size = w.heap.size + 1 := by simp
  refine (spec_l01From _ bs _ (h0.now hA) hbv).mono ?_
  rintro e w1 ⟨rfl, hS, hB1⟩
  rw [hszA] at hS hB1 ⊢
  have hB : Below w.heap.size w w1 := hA.trans (hB1.mono (by omega))
  replace hres := hres.below hB1 (by omega)
  obtain ⟨b2, hb2⟩ : ∃ b2, w.heap.size = b2 := ⟨_, rfl⟩
  obtain ⟨g, hg⟩ : ∃ g, w.heap.size + 1 = g := ⟨_, rfl⟩
  have hgb : w.heap.size ≤ g := by omega
  have hb2g : b2 < g := by omega
  rw [hg] at hS ⊢
  rw [hb2] at hres
  rw [show (Value.pointer (some ⟨w.heap.size, 0, none⟩)) = .pointer (some ⟨b2, 0, none⟩) by rw [hb2]]
  have hb2w : w.heap.size ≤ b2 := by omega
  have hs1 := hB.size
  clear hA hszA hB1 hb2 hg
  go_wp2_with fail
  refine (spec_l11Draw g _ hS).mono ?_
  rintro e w2 ⟨ge, gp, v, rfl, hg0, hg1, hlen, hO, hN⟩
  obtain ⟨A, c, rfl⟩ := hO.shape
  replace hO := hO.rebase hs1
  replace hres := blk_draw hres (by decide) hS hN
  replace hB := below_draw hB hs1 hgb hN
  replace hS := hN.1
  have hs2 := hB.size
  clear hN hs1 hg0 hg1
  have hA2 : Below w2.heap.size w2 (w2.alloc (.cells #[.int .i64 ge, .slice A gp.length c] 26)) := (Below.refl _ _).alloc (Nat.le_refl _) _
  have hbox := Blk.newAt w2 (t := 26) (cs := #[.int .i64 ge, .slice A gp.length c]) _ rfl
  have hbl : w.heap.size ≤ w2.heap.size := hs2
  have hgl : g < w2.heap.size := hS.lt
  replace hO := hO.now hA2
  replace hres := hres.now hA2
  replace hB := hB.trans (hA2.mono hs2)
  replace hS := hS.now hA2
  have hs3 := hB.size
  go_wp2_with fail
  generalize w2.alloc (.cells #[.int .i64 ge, .slice A gp.length c] 26) = w3 at *
  obtain ⟨bg, hbg⟩ : ∃ bg, w2.heap.size = bg := ⟨_, rfl⟩
  rw [hbg] at hbox hbl hgl ⊢
  clear hA2 hs2 hbg
  refine (spec_l01Next g 4 _ hS (by omega)).mono ?_
  rintro e w4 ⟨x, rfl, hx, hN⟩
  replace hO := own_draw hO (by decide) hS hN
  replace hres := blk_draw hres (by decide) hS hN
  replace hbox := blk_draw hbox (by decide) hS hN
  replace hB := below_draw hB hs3 hgb hN
  replace hS := hN.1
  have hs4 := hB.size
  clear hN hs3
  by_cases hx0 : 0 < x
  · clear hx hO
    go_wp2_with fail
    refine (spec_l18Draw g _ hS).mono ?_
    rintro e w5 ⟨t, rfl, ht, hN⟩
    replace hres := blk_draw hres (by decide) hS hN
    replace hbox := blk_draw hbox (by decide) hS hN
    replace hB := below_draw hB hs4 hgb hN
    replace hS := hN.1
    have hs5 := hB.size
    clear hN hs4
    go_wp2_with fail
    refine (spec_CompileText t _ (by omega)).mono ?_
    rintro e w6 ⟨A2, B2, rfl, hO, -, hB6⟩
    have hcl := (compF_len t).1
    generalize compF t = R at *
    obtain ⟨ev, pl, nm, ln, cd⟩ := R
    dsimp only at hO hcl ⊢
    obtain ⟨PA, pc, rfl⟩ := hO.shape
    replace hO := hO.rebase hs5
    replace hres := hres.now hB6
    replace hbox := hbox.now hB6
    replace hB := hB.trans (hB6.mono hs5)
    replace hS := hS.now hB6
    have hs6 := hB.size
    clear hB6 hs5
    obtain ⟨f0, f1⟩ := hbox.f2
    obtain ⟨e0, e1⟩ := hbox.c2
    have l0 := hbox.lt
    have hO2 := hO.far2 hbox (by decide) (.int .i64 ev) (.slice PA pl.length pc)
    have hres2 := (hres.far (p := ⟨bg, 0, none⟩) (by show b2 ≠ bg; omega) (.int .i64 ev)).far (p := ⟨bg, 1, none⟩) (by show b2 ≠ bg; omega) (.slice PA pl.length pc)
    have hbox2 := (hbox.set2a (u := .int .i64 ev)).set2b (u := .slice PA pl.length pc)
    have hB2 := (hB.setCell (p := ⟨bg, 0, none⟩) hbl (.int .i64 ev)).setCell (p := ⟨bg, 1, none⟩) hbl (.slice PA pl.length pc)
    have hS2 : Src ((w6.setCell ⟨bg, 0, none⟩ (.int .i64 ev)).setCell ⟨bg, 1, none⟩ (.slice PA pl.length pc)) g := by
      have e : ∀ (W : World) (k : Nat) (u : Value), Src W g → Src (W.setCell ⟨bg, k, none⟩ u) g := fun W k u h => h.kept (only_setCell (p := ⟨bg, k, none⟩) (World.grownBy.refl W (some bg)) (.inl rfl) u) (fun q hq => by injection hq with hq; omega)
      exact e _ _ _ (e _ _ _ hS)
    clear hO hres hbox hB hS hs6
    go_wp2_with fail
    clear f0 f1 e0 e1 l0
    generalize hWq : ((w6.setCell ⟨bg, 0, none⟩ (.int .i64 ev)).setCell ⟨bg, 1, none⟩ (.slice PA pl.length pc)) = W6 at *
    have hWs : w6.heap.size = W6.heap.size := by rw [← hWq]; simp
    rw [hWs]
    clear hWq hWs
    have hsz0 := hB2.size
    have hA3 : Below W6.heap.size W6 (W6.alloc (.cells #[] 9)) := (Below.refl _ _).alloc (Nat.le_refl _) _
    have hU2 : Own strCell 1 9 (W6.alloc (.cells #[] 9)) (g + 1) (.slice (some ⟨W6.heap.size, 0, none⟩) 0 0) ([] : List ByteArray) := by
      have := own_new0 strCell 1 W6 9 (g + 1) hS2.lt (α := ByteArray)
      simpa using this
    replace hO2 := hO2.now hA3
    replace hres2 := hres2.now hA3
    replace hbox2 := hbox2.now hA3
    replace hB2 := hB2.trans (hA3.mono hsz0)
    replace hS2 := hS2.now hA3
    clear hA3 hsz0
    generalize W6.alloc (.cells #[] 9) = V at *
    go_loopw [6, 7] (fun uv kv wr => ∃ (k : Nat) (l : List ByteArray), kv = .int .i64 k ∧ k ≤ 8 ∧ Hid (l.length ≤ k) ∧ Hid (∀ s ∈ l, s.size ≤ 5) ∧ Own Place.cells 4 57 wr w.heap.size (.slice PA pl.length pc) pl ∧ Own strCell 1 9 wr (g + 1) uv l ∧ Blk wr b2 26 #[.int .i64 0, .slice none 0 0] ∧ Blk wr bg 26 #[.int .i64 ev, (.slice PA pl.length pc)] ∧ Below w.heap.size w wr ∧ Src wr g) (fun _ kv _ => 8 - (intOf kv).toNat)
    case atStart => exact ⟨0, [], rfl, by omega, Nat.le_refl _, fun s hs => by simp at hs, hO2, hU2, hres2, hbox2, hB2, hS2⟩
    case round =>
      clear hO2 hU2 hres2 hbox2 hB2 hS2
      obtain ⟨k, l, rfl, hk, hl, hsz, hO, hU, hres, hbox, hB, hS⟩ := hrel
      obtain ⟨Y, cy, rfl⟩ := hU.shape
      have l0 := hbox.lt
      obtain ⟨e0, e1⟩ := hbox.c2
      by_cases h1 : (k : Int) < ev
      · by_cases h2 : k < 8
        · have i2 : (k : Int) < 8 := by omega
          go_wp2_with fail
          refine (spec_l01Next g 40 _ hS (by omega)).mono ?_
          rintro e wa ⟨x1, rfl, hx1, hN⟩
          clear l0 e0 e1
          replace hO := own_draw hO (by decide) hS hN
          replace hU := own_draw hU (by decide) hS hN
          replace hres := blk_draw hres (by decide) hS hN
          replace hbox := blk_draw hbox (by decide) hS hN
          replace hB := below_draw hB hB.size hgb hN
          replace hS := hN.1
          clear hN
          obtain ⟨x1, rfl⟩ := Int.eq_ofNat_of_zero_le hx1.1
          have bx := hx1.2.1 (by omega)
          clear hx1
          have ed : (x1 : Int).tdiv 39 = ((x1 / 39 : Nat) : Int) := (Int.ofNat_tdiv x1 39).symm
          have hq1 : x1 / 39 ≤ 1 := by omega
          generalize x1 / 39 = qq at *
          have wq : IntKind.i64.wrap (qq : Int) = (qq : Int) := IntWalk.i64_in _ (by omega)
          have wz : IntKind.i64.wrap ((k : Int) + (qq : Int)) = ((k + qq : Nat) : Int) := by rw [IntWalk.i64_in _ (by omega)]; omega
          go_wp2_with fail
          refine (spec_l18Name (k + qq) _ (by omega)).mono ?_
          rintro e wb ⟨nmx, rfl, hnm, hbx⟩
          replace hO := hO.now hbx
          replace hU := hU.now hbx
          replace hres := hres.now hbx
          replace hbox := hbox.now hbx
          replace hS := hS.now hbx
          replace hB := hB.trans (hbx.mono hB.size)
          clear hbx
          have hZ : Below wb.heap.size wb (wb.alloc (.cells #[.string nmx] 9)) := (Below.refl _ _).alloc (Nat.le_refl _) _
          replace hO := hO.now hZ
          replace hU := hU.now hZ
          replace hres := hres.now hZ
          replace hbox := hbox.now hZ
          replace hS := hS.now hZ
          replace hB := hB.trans (hZ.mono hB.size)
          clear hZ
          have hgs := Nat.le_of_lt_succ (Nat.succ_lt_succ hS.lt)
          have hLL : Hid ((l ++ [nmx]).length = l.length + 1) := by show _ = _; simp
          go_wp2_with (at_builtin; refine wpList_append_lst rfl _ _ 27 rfl strCell 1 strCell_one (by omega) (g + 1) 9 _ 16 Tryz.underlying27 info_str rfl _ l rfl hU _ _ _ _ [nmx] rfl (lst_new1 strCell 1 strCell_len _ _ _ _ rfl _ (by simp)) (by have := hl.out; simp; omega) (by omega) hgs ?_; intro v' w9 hO1 hG1 hD1; obtain ⟨V1, cv1, rfl⟩ := own_shape_n hO1 hLL.out; have hO9 := own_kept hO hG1 (own_ne_own hO hU (by decide)); have hres9 := hres.grown hG1 (fun e => hU.ne_blk hres (by decide) e.symm); have hbox9 := hbox.grown hG1 (fun e => hU.ne_blk hbox (by decide) e.symm); have hS9 := hS.kept hG1 (fun k e => (hU.lt k e).1); have hB9 := hB.grown hG1 hB.size (fun k e => by have := (hU.lt k e).1; omega))
          go_roundw
          case rel => exact ⟨k + 1, l ++ [nmx], by go_num, by omega, by have := hl.out; show _ ≤ _; simp; omega, sizes_snoc hsz hnm, hO9, hO1, hres9, hbox9, hB9, hS9⟩
          case measure => simp [intOf]; omega
        · have i2 : ¬ (k : Int) < 8 := by omega
          go_wp2_with fail
          refine (spec_l01Next g 30 _ hS (by omega)).mono ?_
          rintro e wa ⟨z, rfl, hz, hN⟩
          clear l0 e0 e1 hz
          replace hO := own_draw hO (by decide) hS hN
          replace hU := own_draw hU (by decide) hS hN
          replace hres := blk_draw hres (by decide) hS hN
          replace hbox := blk_draw hbox (by decide) hS hN
          replace hB := below_draw hB hB.size hgb hN
          replace hS := hN.1
          clear hN
          by_cases z0 : z = 0
          · subst z0
            have hZ : Below wa.heap.size wa (wa.alloc (.cells #[.string (⟨#[81]⟩ : ByteArray)] 9)) := (Below.refl _ _).alloc (Nat.le_refl _) _
            replace hO := hO.now hZ
            replace hU := hU.now hZ
            replace hres := hres.now hZ
            replace hbox := hbox.now hZ
            replace hS := hS.now hZ
            replace hB := hB.trans (hZ.mono hB.size)
            clear hZ
            have hgs := Nat.le_of_lt_succ (Nat.succ_lt_succ hS.lt)
            have hLL : Hid ((l ++ [(⟨#[81]⟩ : ByteArray)]).length = l.length + 1) := by show _ = _; simp
            go_wp2_with (at_builtin; refine wpList_append_lst rfl _ _ 27 rfl strCell 1 strCell_one (by omega) (g + 1) 9 _ 16 Tryz.underlying27 info_str rfl _ l rfl hU _ _ _ _ [(⟨#[81]⟩ : ByteArray)] rfl (lst_new1 strCell 1 strCell_len _ _ _ _ rfl _ (by simp)) (by have := hl.out; simp; omega) (by omega) hgs ?_; intro v' w9 hO1 hG1 hD1; obtain ⟨V1, cv1, rfl⟩ := own_shape_n hO1 hLL.out; have hO9 := own_kept hO hG1 (own_ne_own hO hU (by decide)); have hres9 := hres.grown hG1 (fun e => hU.ne_blk hres (by decide) e.symm); have hbox9 := hbox.grown hG1 (fun e => hU.ne_blk hbox (by decide) e.symm); have hS9 := hS.kept hG1 (fun k e => (hU.lt k e).1); have hB9 := hB.grown hG1 hB.size (fun k e => by have := (hU.lt k e).1; omega); have l0 := hbox9.lt; obtain ⟨e0, e1⟩ := hbox9.c2; obtain ⟨r0, r1⟩ := hres9.f2; obtain ⟨s0, s1⟩ := hres9.c2; have lr := hres9.lt)
            have rr := ((hres9.set2a (u := .int .i64 ev)).set2b (u := (.slice PA pl.length pc))).c2
            have hOf := (hO9.far2 hres9 (by decide) (.int .i64 ev) (.slice PA pl.length pc))
            have hUf := (hO1.far2 hres9 (by decide) (.int .i64 ev) (.slice PA pl.length pc))
            have hBf := (hB9.setCell (p := ⟨b2, 0, none⟩) hb2w (.int .i64 ev)).setCell (p := ⟨b2, 1, none⟩) hb2w (.slice PA pl.length pc)
            refine bodyPost_ret (v := .tuple #[.agg #[.int .i64 ev, (.slice PA pl.length pc)], .slice V1 (l.length + 1) cv1]) (by simp [results, Tryz.results5, go_sem, rr.1, rr.2]) rfl ?_
            exact ⟨ev, pl, _, _, (l ++ [(⟨#[81]⟩ : ByteArray)]), rfl, by omega, by have := hl.out; simp; omega, sizes_snoc hsz (by decide), hOf, hUf.rebase (by omega), hBf⟩
          · have n0 : (z == 0) = false := by simpa using z0
            clear z0
            have l0 := hbox.lt
            obtain ⟨e0, e1⟩ := hbox.c2
            obtain ⟨r0, r1⟩ := hres.f2
            obtain ⟨s0, s1⟩ := hres.c2
            have lr := hres.lt
            go_wp2
            have rr := ((hres.set2a (u := .int .i64 ev)).set2b (u := (.slice PA pl.length pc))).c2
            have hOf := (hO.far2 hres (by decide) (.int .i64 ev) (.slice PA pl.length pc))
            have hUf := (hU.far2 hres (by decide) (.int .i64 ev) (.slice PA pl.length pc))
            have hBf := (hB.setCell (p := ⟨b2, 0, none⟩) hb2w (.int .i64 ev)).setCell (p := ⟨b2, 1, none⟩) hb2w (.slice PA pl.length pc)
            refine bodyPost_ret (v := .tuple #[.agg #[.int .i64 ev, (.slice PA pl.length pc)], .slice Y l.length cy]) (by simp [results, Tryz.results5, go_sem, rr.1, rr.2]) rfl ?_
            exact ⟨ev, pl, _, _, l, rfl, by omega, by have := hl.out; omega, hsz, hOf, hUf.rebase (by omega), hBf⟩
      · skip
        go_wp2_with fail
        refine (spec_l01Next g 30 _ hS (by omega)).mono ?_
        rintro e wa ⟨z, rfl, hz, hN⟩
        clear l0 e0 e1 hz
        replace hO := own_draw hO (by decide) hS hN
        replace hU := own_draw hU (by decide) hS hN
        replace hres := blk_draw hres (by decide) hS hN
        replace hbox := blk_draw hbox (by decide) hS hN
        replace hB := below_draw hB hB.size hgb hN
        replace hS := hN.1
        clear hN
        by_cases z0 : z = 0
        · subst z0
          have hZ : Below wa.heap.size wa (wa.alloc (.cells #[.string (⟨#[81]⟩ : ByteArray)] 9)) := (Below.refl _ _).alloc (Nat.le_refl _) _
          replace hO := hO.now hZ
          replace hU := hU.now hZ
          replace hres := hres.now hZ
          replace hbox := hbox.now hZ
          replace hS := hS.now hZ
          replace hB := hB.trans (hZ.mono hB.size)
          clear hZ
          have hgs := Nat.le_of_lt_succ (Nat.succ_lt_succ hS.lt)
          have hLL : Hid ((l ++ [(⟨#[81]⟩ : ByteArray)]).length = l.length + 1) := by show _ = _; simp
          go_wp2_with (at_builtin; refine wpList_append_lst rfl _ _ 27 rfl strCell 1 strCell_one (by omega) (g + 1) 9 _ 16 Tryz.underlying27 info_str rfl _ l rfl hU _ _ _ _ [(⟨#[81]⟩ : ByteArray)] rfl (lst_new1 strCell 1 strCell_len _ _ _ _ rfl _ (by simp)) (by have := hl.out; simp; omega) (by omega) hgs ?_; intro v' w9 hO1 hG1 hD1; obtain ⟨V1, cv1, rfl⟩ := own_shape_n hO1 hLL.out; have hO9 := own_kept hO hG1 (own_ne_own hO hU (by decide)); have hres9 := hres.grown hG1 (fun e => hU.ne_blk hres (by decide) e.symm); have hbox9 := hbox.grown hG1 (fun e => hU.ne_blk hbox (by decide) e.symm); have hS9 := hS.kept hG1 (fun k e => (hU.lt k e).1); have hB9 := hB.grown hG1 hB.size (fun k e => by have := (hU.lt k e).1; omega); have l0 := hbox9.lt; obtain ⟨e0, e1⟩ := hbox9.c2; obtain ⟨r0, r1⟩ := hres9.f2; obtain ⟨s0, s1⟩ := hres9.c2; have lr := hres9.lt)
          have rr := ((hres9.set2a (u := .int .i64 ev)).set2b (u := (.slice PA pl.length pc))).c2
          have hOf := (hO9.far2 hres9 (by decide) (.int .i64 ev) (.slice PA pl.length pc))
          have hUf := (hO1.far2 hres9 (by decide) (.int .i64 ev) (.slice PA pl.length pc))
          have hBf := (hB9.setCell (p := ⟨b2, 0, none⟩) hb2w (.int .i64 ev)).setCell (p := ⟨b2, 1, none⟩) hb2w (.slice PA pl.length pc)
          refine bodyPost_ret (v := .tuple #[.agg #[.int .i64 ev, (.slice PA pl.length pc)], .slice V1 (l.length + 1) cv1]) (by simp [results, Tryz.results5, go_sem, rr.1, rr.2]) rfl ?_
          exact ⟨ev, pl, _, _, (l ++ [(⟨#[81]⟩ : ByteArray)]), rfl, by omega, by have := hl.out; simp; omega, sizes_snoc hsz (by decide), hOf, hUf.rebase (by omega), hBf⟩
        · have n0 : (z == 0) = false := by simpa using z0
          clear z0
          have l0 := hbox.lt
          obtain ⟨e0, e1⟩ := hbox.c2
          obtain ⟨r0, r1⟩ := hres.f2
          obtain ⟨s0, s1⟩ := hres.c2
          have lr := hres.lt
          go_wp2
          have rr := ((hres.set2a (u := .int .i64 ev)).set2b (u := (.slice PA pl.length pc))).c2
          have hOf := (hO.far2 hres (by decide) (.int .i64 ev) (.slice PA pl.length pc))
          have hUf := (hU.far2 hres (by decide) (.int .i64 ev) (.slice PA pl.length pc))
          have hBf := (hB.setCell (p := ⟨b2, 0, none⟩) hb2w (.int .i64 ev)).setCell (p := ⟨b2, 1, none⟩) hb2w (.slice PA pl.length pc)
          refine bodyPost_ret (v := .tuple #[.agg #[.int .i64 ev, (.slice PA pl.length pc)], .slice Y l.length cy]) (by simp [results, Tryz.results5, go_sem, rr.1, rr.2]) rfl ?_
          exact ⟨ev, pl, _, _, l, rfl, by omega, by have := hl.out; omega, hsz, hOf, hUf.rebase (by omega), hBf⟩
  · have hO2 := hO
    have hres2 := hres
    have hbox2 := hbox
    have hB2 := hB
    have hS2 := hS
    clear hO hres hbox hB hS hs4
    go_wp2_with fail
    have hsz0 := hB2.size
    have hA3 : Below w4.heap.size w4 (w4.alloc (.cells #[] 9)) := (Below.refl _ _).alloc (Nat.le_refl _) _
    have hU2 : Own strCell 1 9 (w4.alloc (.cells #[] 9)) (g + 1) (.slice (some ⟨w4.heap.size, 0, none⟩) 0 0) ([] : List ByteArray) := by
      have := own_new0 strCell 1 w4 9 (g + 1) hS2.lt (α := ByteArray)
      simpa using this
    replace hO2 := hO2.now hA3
    replace hres2 := hres2.now hA3
    replace hbox2 := hbox2.now hA3
    replace hB2 := hB2.trans (hA3.mono hsz0)
    replace hS2 := hS2.now hA3
    clear hA3 hsz0
    generalize w4.alloc (.cells #[] 9) = V at *
    go_loopw [6, 7] (fun uv kv wr => ∃ (k : Nat) (l : List ByteArray), kv = .int .i64 k ∧ k ≤ 8 ∧ Hid (l.length ≤ k) ∧ Hid (∀ s ∈ l, s.size ≤ 5) ∧ Own Place.cells 4 57 wr w.heap.size (.slice A gp.length c) gp ∧ Own strCell 1 9 wr (g + 1) uv l ∧ Blk wr b2 26 #[.int .i64 0, .slice none 0 0] ∧ Blk wr bg 26 #[.int .i64 ge, (.slice A gp.length c)] ∧ Below w.heap.size w wr ∧ Src wr g) (fun _ kv _ => 8 - (intOf kv).toNat)
    case atStart => exact ⟨0, [], rfl, by omega, Nat.le_refl _, fun s hs => by simp at hs, hO2, hU2, hres2, hbox2, hB2, hS2⟩
    case round =>
      clear hO2 hU2 hres2 hbox2 hB2 hS2
      obtain ⟨k, l, rfl, hk, hl, hsz, hO, hU, hres, hbox, hB, hS⟩ := hrel
      obtain ⟨Y, cy, rfl⟩ := hU.shape
      have l0 := hbox.lt
      obtain ⟨e0, e1⟩ := hbox.c2
      by_cases h1 : (k : Int) < ge
      · by_cases h2 : k < 8
        · have i2 : (k : Int) < 8 := by omega
          go_wp2_with fail
          refine (spec_l01Next g 40 _ hS (by omega)).mono ?_
          rintro e wa ⟨x1, rfl, hx1, hN⟩
          clear l0 e0 e1
          replace hO := own_draw hO (by decide) hS hN
          replace hU := own_draw hU (by decide) hS hN
          replace hres := blk_draw hres (by decide) hS hN
          replace hbox := blk_draw hbox (by decide) hS hN
          replace hB := below_draw hB hB.size hgb hN
          replace hS := hN.1
          clear hN
          obtain ⟨x1, rfl⟩ := Int.eq_ofNat_of_zero_le hx1.1
          have bx := hx1.2.1 (by omega)
          clear hx1
          have ed : (x1 : Int).tdiv 39 = ((x1 / 39 : Nat) : Int) := (Int.ofNat_tdiv x1 39).symm
          have hq1 : x1 / 39 ≤ 1 := by omega
          generalize x1 / 39 = qq at *
          have wq : IntKind.i64.wrap (qq : Int) = (qq : Int) := IntWalk.i64_in _ (by omega)
          have wz : IntKind.i64.wrap ((k : Int) + (qq : Int)) = ((k + qq : Nat) : Int) := by rw [IntWalk.i64_in _ (by omega)]; omega
          go_wp2_with fail
          refine (spec_l18Name (k + qq) _ (by omega)).mono ?_
          rintro e wb ⟨nmx, rfl, hnm, hbx⟩
          replace hO := hO.now hbx
          replace hU := hU.now hbx
          replace hres := hres.now hbx
          replace hbox := hbox.now hbx
          replace hS := hS.now hbx
          replace hB := hB.trans (hbx.mono hB.size)
          clear hbx
          have hZ : Below wb.heap.size wb (wb.alloc (.cells #[.string nmx] 9)) := (Below.refl _ _).alloc (Nat.le_refl _) _
          replace hO := hO.now hZ
          replace hU := hU.now hZ
          replace hres := hres.now hZ
          replace hbox := hbox.now hZ
          replace hS := hS.now hZ
          replace hB := hB.trans (hZ.mono hB.size)
          clear hZ
          have hgs := Nat.le_of_lt_succ (Nat.succ_lt_succ hS.lt)
          have hLL : Hid ((l ++ [nmx]).length = l.length + 1) := by show _ = _; simp
          go_wp2_with (at_builtin; refine wpList_append_lst rfl _ _ 27 rfl strCell 1 strCell_one (by omega) (g + 1) 9 _ 16 Tryz.underlying27 info_str rfl _ l rfl hU _ _ _ _ [nmx] rfl (lst_new1 strCell 1 strCell_len _ _ _ _ rfl _ (by simp)) (by have := hl.out; simp; omega) (by omega) hgs ?_; intro v' w9 hO1 hG1 hD1; obtain ⟨V1, cv1, rfl⟩ := own_shape_n hO1 hLL.out; have hO9 := own_kept hO hG1 (own_ne_own hO hU (by decide)); have hres9 := hres.grown hG1 (fun e => hU.ne_blk hres (by decide) e.symm); have hbox9 := hbox.grown hG1 (fun e => hU.ne_blk hbox (by decide) e.symm); have hS9 := hS.kept hG1 (fun k e => (hU.lt k e).1); have hB9 := hB.grown hG1 hB.size (fun k e => by have := (hU.lt k e).1; omega))
          go_roundw
          case rel => exact ⟨k + 1, l ++ [nmx], by go_num, by omega, by have := hl.out; show _ ≤ _; simp; omega, sizes_snoc hsz hnm, hO9, hO1, hres9, hbox9, hB9, hS9⟩
          case measure => simp [intOf]; omega
        · have i2 : ¬ (k : Int) < 8 := by omega
          go_wp2_with fail
          refine (spec_l01Next g 30 _ hS (by omega)).mono ?_
          rintro e wa ⟨z, rfl, hz, hN⟩
          clear l0 e0 e1 hz
          replace hO := own_draw hO (by decide) hS hN
          replace hU := own_draw hU (by decide) hS hN
          replace hres := blk_draw hres (by decide) hS hN
          replace hbox := blk_draw hbox (by decide) hS hN
          replace hB := below_draw hB hB.size hgb hN
          replace hS := hN.1
          clear hN
          by_cases z0 : z = 0
          · subst z0
            have hZ : Below wa.heap.size wa (wa.alloc (.cells #[.string (⟨#[81]⟩ : ByteArray)] 9)) := (Below.refl _ _).alloc (Nat.le_refl _) _
            replace hO := hO.now hZ
            replace hU := hU.now hZ
            replace hres := hres.now hZ
            replace hbox := hbox.now hZ
            replace hS := hS.now hZ
            replace hB := hB.trans (hZ.mono hB.size)
            clear hZ
            have hgs := Nat.le_of_lt_succ (Nat.succ_lt_succ hS.lt)
            have hLL : Hid ((l ++ [(⟨#[81]⟩ : ByteArray)]).length = l.length + 1) := by show _ = _; simp
            go_wp2_with (at_builtin; refine wpList_append_lst rfl _ _ 27 rfl strCell 1 strCell_one (by omega) (g + 1) 9 _ 16 Tryz.underlying27 info_str rfl _ l rfl hU _ _ _ _ [(⟨#[81]⟩ : ByteArray)] rfl (lst_new1 strCell 1 strCell_len _ _ _ _ rfl _ (by simp)) (by have := hl.out; simp; omega) (by omega) hgs ?_; intro v' w9 hO1 hG1 hD1; obtain ⟨V1, cv1, rfl⟩ := own_shape_n hO1 hLL.out; have hO9 := own_kept hO hG1 (own_ne_own hO hU (by decide)); have hres9 := hres.grown hG1 (fun e => hU.ne_blk hres (by decide) e.symm); have hbox9 := hbox.grown hG1 (fun e => hU.ne_blk hbox (by decide) e.symm); have hS9 := hS.kept hG1 (fun k e => (hU.lt k e).1); have hB9 := hB.grown hG1 hB.size (fun k e => by have := (hU.lt k e).1; omega); have l0 := hbox9.lt; obtain ⟨e0, e1⟩ := hbox9.c2; obtain ⟨r0, r1⟩ := hres9.f2; obtain ⟨s0, s1⟩ := hres9.c2; have lr := hres9.lt)
            have rr := ((hres9.set2a (u := .int .i64 ge)).set2b (u := (.slice A gp.length c))).c2
            have hOf := (hO9.far2 hres9 (by decide) (.int .i64 ge) (.slice A gp.length c))
            have hUf := (hO1.far2 hres9 (by decide) (.int .i64 ge) (.slice A gp.length c))
            have hBf := (hB9.setCell (p := ⟨b2, 0, none⟩) hb2w (.int .i64 ge)).setCell (p := ⟨b2, 1, none⟩) hb2w (.slice A gp.length c)
            refine bodyPost_ret (v := .tuple #[.agg #[.int .i64 ge, (.slice A gp.length c)], .slice V1 (l.length + 1) cv1]) (by simp [results, Tryz.results5, go_sem, rr.1, rr.2]) rfl ?_
            exact ⟨ge, gp, _, _, (l ++ [(⟨#[81]⟩ : ByteArray)]), rfl, by omega, by have := hl.out; simp; omega, sizes_snoc hsz (by decide), hOf, hUf.rebase (by omega), hBf⟩
          · have n0 : (z == 0) = false := by simpa using z0
            clear z0
            have l0 := hbox.lt
            obtain ⟨e0, e1⟩ := hbox.c2
            obtain ⟨r0, r1⟩ := hres.f2
            obtain ⟨s0, s1⟩ := hres.c2
            have lr := hres.lt
            go_wp2
            have rr := ((hres.set2a (u := .int .i64 ge)).set2b (u := (.slice A gp.length c))).c2
            have hOf := (hO.far2 hres (by decide) (.int .i64 ge) (.slice A gp.length c))
            have hUf := (hU.far2 hres (by decide) (.int .i64 ge) (.slice A gp.length c))
            have hBf := (hB.setCell (p := ⟨b2, 0, none⟩) hb2w (.int .i64 ge)).setCell (p := ⟨b2, 1, none⟩) hb2w (.slice A gp.length c)
            refine bodyPost_ret (v := .tuple #[.agg #[.int .i64 ge, (.slice A gp.length c)], .slice Y l.length cy]) (by simp [results, Tryz.results5, go_sem, rr.1, rr.2]) rfl ?_
            exact ⟨ge, gp, _, _, l, rfl, by omega, by have := hl.out; omega, hsz, hOf, hUf.rebase (by omega), hBf⟩
      · skip
        go_wp2_with fail
        refine (spec_l01Next g 30 _ hS (by omega)).mono ?_
        rintro e wa ⟨z, rfl, hz, hN⟩
        clear l0 e0 e1 hz
        replace hO := own_draw hO (by decide) hS hN
        replace hU := own_draw hU (by decide) hS hN
        replace hres := blk_draw hres (by decide) hS hN
        replace hbox := blk_draw hbox (by decide) hS hN
        replace hB := below_draw hB hB.size hgb hN
        replace hS := hN.1
        clear hN
        by_cases z0 : z = 0
        · subst z0
          have hZ : Below wa.heap.size wa (wa.alloc (.cells #[.string (⟨#[81]⟩ : ByteArray)] 9)) := (Below.refl _ _).alloc (Nat.le_refl _) _
          replace hO := hO.now hZ
          replace hU := hU.now hZ
          replace hres := hres.now hZ
          replace hbox := hbox.now hZ
          replace hS := hS.now hZ
          replace hB := hB.trans (hZ.mono hB.size)
          clear hZ
          have hgs := Nat.le_of_lt_succ (Nat.succ_lt_succ hS.lt)
          have hLL : Hid ((l ++ [(⟨#[81]⟩ : ByteArray)]).length = l.length + 1) := by show _ = _; simp
          go_wp2_with (at_builtin; refine wpList_append_lst rfl _ _ 27 rfl strCell 1 strCell_one (by omega) (g + 1) 9 _ 16 Tryz.underlying27 info_str rfl _ l rfl hU _ _ _ _ [(⟨#[81]⟩ : ByteArray)] rfl (lst_new1 strCell 1 strCell_len _ _ _ _ rfl _ (by simp)) (by have := hl.out; simp; omega) (by omega) hgs ?_; intro v' w9 hO1 hG1 hD1; obtain ⟨V1, cv1, rfl⟩ := own_shape_n hO1 hLL.out; have hO9 := own_kept hO hG1 (own_ne_own hO hU (by decide)); have hres9 := hres.grown hG1 (fun e => hU.ne_blk hres (by decide) e.symm); have hbox9 := hbox.grown hG1 (fun e => hU.ne_blk hbox (by decide) e.symm); have hS9 := hS.kept hG1 (fun k e => (hU.lt k e).1); have hB9 := hB.grown hG1 hB.size (fun k e => by have := (hU.lt k e).1; omega); have l0 := hbox9.lt; obtain ⟨e0, e1⟩ := hbox9.c2; obtain ⟨r0, r1⟩ := hres9.f2; obtain ⟨s0, s1⟩ := hres9.c2; have lr := hres9.lt)
          have rr := ((hres9.set2a (u := .int .i64 ge)).set2b (u := (.slice A gp.length c))).c2
          have hOf := (hO9.far2 hres9 (by decide) (.int .i64 ge) (.slice A gp.length c))
          have hUf := (hO1.far2 hres9 (by decide) (.int .i64 ge) (.slice A gp.length c))
          have hBf := (hB9.setCell (p := ⟨b2, 0, none⟩) hb2w (.int .i64 ge)).setCell (p := ⟨b2, 1, none⟩) hb2w (.slice A gp.length c)
          refine bodyPost_ret (v := .tuple #[.agg #[.int .i64 ge, (.slice A gp.length c)], .slice V1 (l.length + 1) cv1]) (by simp [results, Tryz.results5, go_sem, rr.1, rr.2]) rfl ?_
          exact ⟨ge, gp, _, _, (l ++ [(⟨#[81]⟩ : ByteArray)]), rfl, by omega, by have := hl.out; simp; omega, sizes_snoc hsz (by decide), hOf, hUf.rebase (by omega), hBf⟩
        · have n0 : (z == 0) = false := by simpa using z0
          clear z0
          have l0 := hbox.lt
          obtain ⟨e0, e1⟩ := hbox.c2
          obtain ⟨r0, r1⟩ := hres.f2
          obtain ⟨s0, s1⟩ := hres.c2
          have lr := hres.lt
          go_wp2
          have rr := ((hres.set2a (u := .int .i64 ge)).set2b (u := (.slice A gp.length c))).c2
          have hOf := (hO.far2 hres (by decide) (.int .i64 ge) (.slice A gp.length c))
          have hUf := (hU.far2 hres (by decide) (.int .i64 ge) (.slice A gp.length c))
          have hBf := (hB.setCell (p := ⟨b2, 0, none⟩) hb2w (.int .i64 ge)).setCell (p := ⟨b2, 1, none⟩) hb2w (.slice A gp.length c)
          refine bodyPost_ret (v := .tuple #[.agg #[.int .i64 ge, (.slice A gp.length c)], .slice Y l.length cy]) (by simp [results, Tryz.results5, go_sem, rr.1, rr.2]) rfl ?_
          exact ⟨ge, gp, _, _, l, rfl, by omega, by have := hl.out; omega, hsz, hOf, hUf.rebase (by omega), hBf⟩
set_option maxHeartbeats 4000000 in
set_option maxRecDepth 100000 in
theorem spec_DrawStationLoad (cv : Value) (bs : List Int) (w : World) (h0 : Lst byteCell 1 w w.heap.size cv bs) (hbv : Hid (∀ b ∈ bs, 0 ≤ b ∧ b ≤ 255)) :
    Calls Tryz.prog 8 #[cv] w fun e w' => ∃ ge gp v n, e = .returned (.tuple #[.agg #[.int .i64 ge, v], .int .i64 n]) ∧ gp.length ≤ 40 ∧ Own Place.cells 4 57 w' w.heap.size v gp ∧ Below w.heap.size w w' := by
  go_enter Tryz.func8, Tryz.ntmps8
  go_wp2_with fail
  have hA : Below w.heap.size w (w.alloc (.cells #[.int .i64 0, .slice none 0 0] 26)) := (Below.refl _ _).alloc (Nat.le_refl _) _
  have hres := Blk.newAt w (t := 26) (cs := #[.int .i64 0, .slice none 0 0]) _ rfl
  have hszA : (w.alloc (.cells #[.int .i64 0, .slice none 0 0] 26)).heap.size = w.heap.size + 1 := by simp
  refine (spec_l01From _ bs _ (h0.now hA) hbv).mono ?_
  rintro e w1 ⟨rfl, hS, hB1⟩
  rw [hszA] at hS hB1 ⊢
  have hB : Below w.heap.size w w1 := hA.trans (hB1.mono (by omega))
  replace hres := hres.below hB1 (by omega)
  obtain ⟨b2, hb2⟩ : ∃ b2, w.heap.size = b2 := ⟨_, rfl⟩
  obtain ⟨g, hg⟩ : ∃ g, w.heap.size + 1 = g := ⟨_, rfl⟩
  have hgb : w.heap.size ≤ g := by omega
  rw [hg] at hS ⊢
  rw [hb2] at hres
  rw [show (Value.pointer (some ⟨w.heap.size, 0, none⟩)) = .pointer (some ⟨b2, 0, none⟩) by rw [hb2]]
  have hb2w : w.heap.size ≤ b2 := by omega
  have hs1 := hB.size
  clear hA hszA hB1 hb2 hg
  go_wp2_with fail
  refine (spec_l11DrawEvent g _ hS).mono ?_
  rintro e w2 ⟨ge, gp, v, n, rfl, -, -, hlen, -, -, hO, hN⟩
  obtain ⟨A, c, rfl⟩ := hO.shape
  replace hO := hO.rebase hs1
  replace hres := blk_draw hres (by decide) hS hN
  replace hB := below_draw hB hs1 hgb hN
  clear hN hs1 hS
  obtain ⟨r0, r1⟩ := hres.f2
  obtain ⟨s0, s1⟩ := hres.c2
  have lr := hres.lt
  have rr := ((hres.set2a (u := .int .i64 ge)).set2b (u := .slice A gp.length c)).c2
  have hOf := hO.far2 hres (by decide) (.int .i64 ge) (.slice A gp.length c)
  have hBf := (hB.setCell (p := ⟨b2, 0, none⟩) hb2w (.int .i64 ge)).setCell (p := ⟨b2, 1, none⟩) hb2w (.slice A gp.length c)
  go_wp2
  refine bodyPost_ret (v := .tuple #[.agg #[.int .i64 ge, .slice A gp.length c], .int .i64 n]) (by simp [results, Tryz.results8, go_sem, rr.1, rr.2]) rfl ?_
  exact ⟨ge, gp, _, n, rfl, hlen, hOf, hBf⟩
end Go.Proofs.YtcoomogabicfnaaGreatDoor
