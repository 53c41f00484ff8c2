/-
  The walks of the draws of a circuit with a marking, and of a marking and an event.
-/
import Derived.Test.YtkbhbmoogkjafaaDrL
namespace Go.Proofs.Ytkbhbmoogkjafaa
open Go.RowKit
set_option linter.unusedVariables false
set_option linter.unusedSimpArgs false
/-- A list of numbers of the call's own, not too long. -/
def CtRet (B : Nat) (w' : World) (u : Value) : Prop := ∃ l : List Int, l.length ≤ 41 ∧ Own intCell 1 2 w' B u l
set_option maxHeartbeats 16000000 in
set_option maxRecDepth 100000 in
theorem spec_DrawCircuitTokens (cv : Value) (bs : List Int) (w : World) (h0 : Lst byteCell 1 w w.heap.size cv bs) (hbv : Hid (∀ b ∈ bs, 0 ≤ b ∧ b ≤ 255)) :
    Calls Try.prog 27 #[cv] w fun e w' => ∃ ge gp v u1 u2, e = .returned (.tuple #[.agg #[.int .i64 ge, v], u1, u2]) ∧ 0 ≤ ge ∧ ge ≤ 11 ∧ gp.length ≤ 40 ∧ Own Place.cells 4 45 w' w.heap.size v gp ∧ CtRet w.heap.size w' u1 ∧ CtRet w.heap.size w' u2 ∧ Below w.heap.size w w' := by
  go_enter Try.func27, Try.ntmps27
  go_wp2_with fail
  have hA : Below w.heap.size w (w.alloc (.cells #[.int .i64 0, .slice none 0 0] 26)) := (Below.refl _ _).alloc (Nat.le_refl _) _
  have hres := Blk.newAt w (t := 26) (cs := #[.int .i64 0, .slice none 0 0]) _ rfl
  have hszA : (w.alloc (.cells #[.int .i64 0, .slice none 0 0] 26)).heap.size = w.heap.size + 1 := by simp
  refine (spec_l01From _ bs _ (h0.now hA) hbv).mono ?_
  rintro e w1 ⟨rfl, hS, hB1⟩
  rw [hszA] at hS hB1 ⊢
  have hB : Below w.heap.size w w1 := hA.trans (hB1.mono (by omega))
  replace hres := hres.below hB1 (by omega)
  obtain ⟨b2, hb2⟩ : ∃ b2, w.heap.size = b2 := ⟨_, rfl⟩
  obtain ⟨g, hg⟩ : ∃ g, w.heap.size + 1 = g := ⟨_, rfl⟩
  have hgb : w.heap.size ≤ g := by omega
  rw [hg] at hS ⊢
  rw [hb2] at hres
  rw [show (Value.pointer (some ⟨w.heap.size, 0, none⟩)) = .pointer (some ⟨b2, 0, none⟩) by rw [hb2]]
  have hb2w : w.heap.size ≤ b2 := by omega
  have hs1 := hB.size
  clear hA hszA hB1 hb2 hg
  go_wp2_with fail
  refine (spec_l15DrawCircuit g _ hS).mono ?_
  rintro e w2 ⟨ge, gp, v, u, rfl, hg0, hg1, hlen, l, hll, hO, hU, hN⟩
  obtain ⟨A, c, rfl⟩ := hO.shape
  obtain ⟨Y, cy, rfl⟩ := hU.shape
  replace hO := hO.rebase hs1
  replace hU := hU.rebase hs1
  replace hres := blk_draw hres (by decide) hS hN
  replace hB := below_draw hB hs1 hgb hN
  replace hS := hN.1
  have hs2 := hB.size
  clear hN hs1
  have hA2 : Below w2.heap.size w2 (w2.alloc (.cells #[.int .i64 ge, .slice A gp.length c] 26)) := (Below.refl _ _).alloc (Nat.le_refl _) _
  have hbox := Blk.newAt w2 (t := 26) (cs := #[.int .i64 ge, .slice A gp.length c]) _ rfl
  replace hO := hO.now hA2
  replace hU := hU.now hA2
  replace hres := hres.now hA2
  replace hB := hB.trans (hA2.mono hs2)
  replace hS := hS.now hA2
  have l0 := hbox.lt
  obtain ⟨e0, e1⟩ := hbox.c2
  go_wp2_with fail
  clear l0 e0 e1 hA2 hs2
  obtain ⟨bg, hbg⟩ : ∃ bg, w2.heap.size = bg := ⟨_, rfl⟩
  rw [hbg] at hbox ⊢
  generalize w2.alloc (.cells #[.int .i64 ge, .slice A gp.length c] 26) = wx at *
  clear hbg
  refine (spec_l17FirstW _ ge gp _ hO.lst (by omega)).mono ?_
  rintro e w3 ⟨mv, rfl, hM, hB2⟩
  replace hM := hM.rebase hB.size
  replace hO := hO.now hB2
  replace hU := hU.now hB2
  replace hres := hres.now hB2
  replace hbox := hbox.now hB2
  replace hB := hB.trans (hB2.mono hB.size)
  replace hS := hS.now hB2
  clear hB2
  go_wp2_with fail
  refine (spec_l01Next g 8 _ hS (by omega)).mono ?_
  rintro e w4 ⟨nn, rfl, hnn, hN⟩
  replace hO := own_draw hO (by decide) hS hN
  replace hU := own_draw hU (by decide) hS hN
  replace hM := own_draw hM (by decide) hS hN
  replace hres := blk_draw hres (by decide) hS hN
  replace hbox := blk_draw hbox (by decide) hS hN
  replace hB := below_draw hB hB.size hgb hN
  replace hS := hN.1
  clear hN
  have hn5 : nn < 8 := hnn.2.1 (by omega)
  have hn0 := hnn.1
  have hbd0 : Hid (okGraph ge gp = true → ∀ x ∈ firstF gp, -(50 - nn) ≤ x ∧ x ≤ 50 - nn) := by
    intro hok x hx
    obtain ⟨p, hp, rfl⟩ := List.mem_map.1 hx
    have := (okGraph_place hok hp).2.2.2
    omega
  have hml0 := Lib.hid (firstF_len gp)
  generalize firstF gp = m0 at *
  clear hnn
  go_wp2
  go_loopw [8, 9, 10] (fun mv kv _ wr => ∃ (m : List Int) (kk : Int), kv = .int .i64 kk ∧ 0 ≤ kk ∧ kk ≤ 7 ∧ Hid (m.length = gp.length) ∧ Hid (okGraph ge gp = true → ∀ x ∈ m, -(50 - kk) ≤ x ∧ x ≤ 50 - kk) ∧ Own Place.cells 4 45 wr w.heap.size (.slice A gp.length c) gp ∧ Own intCell 1 2 wr w.heap.size (.slice Y l.length cy) l ∧ Own intCell 1 2 wr w.heap.size mv m ∧ Blk wr b2 26 #[.int .i64 0, .slice none 0 0] ∧ Blk wr bg 26 #[.int .i64 ge, .slice A gp.length c] ∧ Below w.heap.size w wr ∧ Src wr g) (fun _ kv _ _ => (intOf kv).toNat)
  case atStart => exact ⟨m0, nn, rfl, hn0, by omega, hml0, hbd0, hO, hU, hM, hres, hbox, hB, hS⟩
  case round =>
    clear hO hU hM hres hbox hB hS hbd0 hml0 hn5 hn0
    obtain ⟨m, kk, rfl, hk0, hk1, hml, hbd, hO, hU, hM, hres, hbox, hB, hS⟩ := hrel
    obtain ⟨M, cm, rfl⟩ := hM.shape
    by_cases hlt : 0 < kk
    · have l0 := hbox.lt
      obtain ⟨e0, e1⟩ := hbox.c2
      go_wp2_with fail
      clear l0 e0 e1
      refine (spec_IsEventGraph _ ge gp _ hO.lst).mono ?_
      rintro e wa ⟨rfl, hB2⟩
      replace hO := hO.now hB2
      replace hU := hU.now hB2
      replace hM := hM.now hB2
      replace hres := hres.now hB2
      replace hbox := hbox.now hB2
      replace hB := hB.trans (hB2.mono hB.size)
      replace hS := hS.now hB2
      clear hB2
      cases hok : okGraph ge gp
      · clear hok hbd hlt
        have hmlB : m.length ≤ 41 := by rw [hml.out]; omega
        have l0 := hbox.lt
        obtain ⟨e0, e1⟩ := hbox.c2
        have f0 := hres.frozen 0
        have f1 := hres.frozen 1
        have lb2 := hres.lt
        obtain ⟨r0, r1⟩ := hres.c2
        have hq1 := Lib.hid (own_far (own_far hO (p := ⟨b2, 0, none⟩) (hO.ne_blk hres (by decide)) (.int .i64 ge)) (p := ⟨b2, 1, none⟩) (hO.ne_blk hres (by decide)) (.slice A gp.length c))
        have hq2 : Hid (CtRet w.heap.size _ _) := Lib.hid ⟨l, by omega, own_far (own_far hU (p := ⟨b2, 0, none⟩) (hU.ne_blk hres (by decide)) (.int .i64 ge)) (p := ⟨b2, 1, none⟩) (hU.ne_blk hres (by decide)) (.slice A gp.length c)⟩
        have hq4 : Hid (CtRet w.heap.size _ _) := Lib.hid ⟨m, hmlB, own_far (own_far hM (p := ⟨b2, 0, none⟩) (hM.ne_blk hres (by decide)) (.int .i64 ge)) (p := ⟨b2, 1, none⟩) (hM.ne_blk hres (by decide)) (.slice A gp.length c)⟩
        have hq3 := Lib.hid ((hB.setCell (p := ⟨b2, 0, none⟩) hb2w (.int .i64 ge)).setCell (p := ⟨b2, 1, none⟩) hb2w (.slice A gp.length c))
        clear hO hU hM hres hbox hB hS hml hmlB
        go_wp2
        refine bodyPost_ret (v := .tuple #[.agg #[.int .i64 ge, .slice A gp.length c], .slice M m.length cm, .slice Y l.length cy]) (by simp [results, Try.results27, go_sem, r0, r1]) rfl ⟨ge, gp, _, _, _, rfl, by omega, by omega, by omega, hq1.out, hq4.out, hq2.out, hq3.out⟩
      · obtain ⟨g1, g2⟩ := okGraph_ev hok
        have hgl := okGraph_len hok
        obtain ⟨n, rfl⟩ := Int.eq_ofNat_of_zero_le hg0
        have hokH := Lib.hid hok
        have hmb := hbd.out hok
        have hmb2 : Hid (∀ x ∈ m, -1000 ≤ x ∧ x ≤ 1000) := fun x hx => by have := hmb x hx; omega
        have hmbH := Lib.hid hmb
        have wk : IntKind.i64.wrap (kk - 1) = kk - 1 := IntWalk.i64_in _ (by omega)
        clear hok hbd hmb
        have l0 := hbox.lt
        obtain ⟨e0, e1⟩ := hbox.c2
        go_wp2_with fail
        clear l0 e0 e1
        refine (spec_l01Next g (n : Int) _ hS (by omega)).mono ?_
        rintro e wb ⟨ev, rfl, hev, hN⟩
        replace hO := own_draw hO (by decide) hS hN
        replace hU := own_draw hU (by decide) hS hN
        replace hM := own_draw hM (by decide) hS hN
        replace hres := blk_draw hres (by decide) hS hN
        replace hbox := blk_draw hbox (by decide) hS hN
        replace hB := below_draw hB hB.size hgb hN
        replace hS := hN.1
        clear hN
        clear hev
        have l0 := hbox.lt
        obtain ⟨e0, e1⟩ := hbox.c2
        go_wp2_with fail
        clear l0 e0 e1
        refine (spec_l17EnabledW _ (n : Int) gp _ m ev _ hO.lst hM.lst hml.out).mono ?_
        rintro e wc ⟨b, rfl, hB2⟩
        replace hO := hO.now hB2
        replace hU := hU.now hB2
        replace hM := hM.now hB2
        replace hres := hres.now hB2
        replace hbox := hbox.now hB2
        replace hB := hB.trans (hB2.mono hB.size)
        replace hS := hS.now hB2
        clear hB2
        cases b
        · go_wp2
          go_roundw
          case rel => exact ⟨m, kk - 1, rfl, by omega, by omega, hml, fun _ x hx => by have := hmbH.out x hx; omega, hO, hU, hM, hres, hbox, hB, hS⟩
          case measure => simp [intOf]; omega
        · have l0 := hbox.lt
          obtain ⟨e0, e1⟩ := hbox.c2
          go_wp2_with fail
          clear l0 e0 e1
          refine (spec_l17FireW _ n gp _ m ev _ hO.lst hM.lst hokH hml hmb2 hgl).mono ?_
          rintro e w10 ⟨y9, rfl, hM2, hB10⟩
          have hM3 := hM2.rebase hB.size
          have hO9 := hO.now hB10
          have hU9 := hU.now hB10
          have hr9 := hres.now hB10
          have hx9 := hbox.now hB10
          have hS9 := hS.now hB10
          have hB9 := hB.trans (hB10.mono hB.size)
          go_wp2
          go_roundw
          case rel => exact ⟨_, kk - 1, rfl, by omega, by omega, Lib.hid ((fireM_len gp m ev hml.out).trans hml.out), (fun _ x hx => by have := fireM_bd (B := 50 - kk) hmbH.out x hx; omega), hO9, hU9, hM3, hr9, hx9, hB9, hS9⟩
          case measure => simp [intOf]; omega
    · clear hbd
      obtain ⟨wa, rfl⟩ : ∃ wa : World, wa = wr := ⟨_, rfl⟩
      have hmlB : m.length ≤ 41 := by rw [hml.out]; omega
      have l0 := hbox.lt
      obtain ⟨e0, e1⟩ := hbox.c2
      have f0 := hres.frozen 0
      have f1 := hres.frozen 1
      have lb2 := hres.lt
      obtain ⟨r0, r1⟩ := hres.c2
      have hq1 := Lib.hid (own_far (own_far hO (p := ⟨b2, 0, none⟩) (hO.ne_blk hres (by decide)) (.int .i64 ge)) (p := ⟨b2, 1, none⟩) (hO.ne_blk hres (by decide)) (.slice A gp.length c))
      have hq2 : Hid (CtRet w.heap.size _ _) := Lib.hid ⟨l, by omega, own_far (own_far hU (p := ⟨b2, 0, none⟩) (hU.ne_blk hres (by decide)) (.int .i64 ge)) (p := ⟨b2, 1, none⟩) (hU.ne_blk hres (by decide)) (.slice A gp.length c)⟩
      have hq4 : Hid (CtRet w.heap.size _ _) := Lib.hid ⟨m, hmlB, own_far (own_far hM (p := ⟨b2, 0, none⟩) (hM.ne_blk hres (by decide)) (.int .i64 ge)) (p := ⟨b2, 1, none⟩) (hM.ne_blk hres (by decide)) (.slice A gp.length c)⟩
      have hq3 := Lib.hid ((hB.setCell (p := ⟨b2, 0, none⟩) hb2w (.int .i64 ge)).setCell (p := ⟨b2, 1, none⟩) hb2w (.slice A gp.length c))
      clear hO hU hM hres hbox hB hS hml hmlB
      go_wp2
      refine bodyPost_ret (v := .tuple #[.agg #[.int .i64 ge, .slice A gp.length c], .slice M m.length cm, .slice Y l.length cy]) (by simp [results, Try.results27, go_sem, r0, r1]) rfl ⟨ge, gp, _, _, _, rfl, by omega, by omega, by omega, hq1.out, hq4.out, hq2.out, hq3.out⟩
set_option maxHeartbeats 16000000 in
set_option maxRecDepth 100000 in
theorem spec_l17Draw (g : Nat) (w : World) (h : Src w g) :
    Calls Try.prog 130 #[.pointer (some ⟨g, 0, none⟩)] w fun e w' => ∃ ge gp v u, e = .returned (.tuple #[.agg #[.int .i64 ge, v], u]) ∧ 0 ≤ ge ∧ ge ≤ 11 ∧ gp.length ≤ 40 ∧ Own Place.cells 4 45 w' w.heap.size v gp ∧ CtRet w.heap.size w' u ∧ Drawn w g w' := by
  have hgw := h.lt
  go_enter Try.func130, Try.ntmps130
  go_wp2_with fail
  have hA : Below w.heap.size w (w.alloc (.cells #[.int .i64 0, .slice none 0 0] 26)) := (Below.refl _ _).alloc (Nat.le_refl _) _
  refine (spec_l12Draw g _ (h.now hA)).mono ?_
  rintro e w1 ⟨ge, gp, v, rfl, hg0, hg1, hlen, hO, hN⟩
  obtain ⟨A, c, rfl⟩ := hO.shape
  have hres := (Blk.new w 26 #[.int .i64 0, .slice none 0 0]).grown hN.2 (fun e => by injection e with e; omega)
  have hG1 := grown_trans (grown_of_below (r := some g) hA) hN.2
  have hs1 := hG1.size
  have hlt1 := hres.lt
  have hA2 : Below w1.heap.size w1 (w1.alloc (.cells #[.int .i64 ge, .slice A gp.length c] 26)) := (Below.refl _ _).alloc (Nat.le_refl _) _
  have hD : Dr w g w.heap.size w1.heap.size (w1.alloc (.cells #[.int .i64 ge, .slice A gp.length c] 26)) ge (.slice A gp.length c) gp :=
    ⟨hN.1.now hA2, grown_trans hG1 (grown_of_below hA2), hres.now hA2, Blk.newAt _ _ rfl, (hO.rebase hA.size).now hA2, Nat.le_refl _, hs1, by omega, hgw⟩
  obtain ⟨e0, e1⟩ := hD.box.c2
  have lbg := hD.box.lt
  go_wp2_with fail
  clear e0 e1 lbg
  obtain ⟨bg, hbg⟩ : ∃ bg, w1.heap.size = bg := ⟨_, rfl⟩
  obtain ⟨b2, hb2⟩ : ∃ b2, w.heap.size = b2 := ⟨_, rfl⟩
  have hD' : Dr w g b2 bg (w1.alloc (.cells #[.int .i64 ge, .slice A gp.length c] 26)) ge (.slice A gp.length c) gp := by rw [← hb2, ← hbg]; exact hD
  rw [hbg]
  rw [show (Value.pointer (some ⟨w.heap.size, 0, none⟩)) = .pointer (some ⟨b2, 0, none⟩) by rw [hb2]]
  clear hN hO hres hG1 hs1 hlt1 hD hA hA2 hbg hb2
  generalize w1.alloc (.cells #[.int .i64 ge, .slice A gp.length c] 26) = W2 at *
  refine (spec_l17FirstW _ ge gp _ hD'.own.lst (by omega)).mono ?_
  rintro e w3 ⟨mv, rfl, hM, hB2⟩
  replace hM := hM.rebase hD'.grown.size
  have hD := hD'.below hB2
  have hbd0 : Hid (okGraph ge gp = true → ∀ x ∈ firstF gp, 0 ≤ x ∧ x ≤ 5) := by
    intro hok x hx
    obtain ⟨p, hp, rfl⟩ := List.mem_map.1 hx
    have := (okGraph_place hok hp).2.2.2
    omega
  have hml0 := Lib.hid (firstF_len gp)
  clear hB2 hD'
  generalize firstF gp = m0 at *
  obtain ⟨M0, cm0, rfl⟩ := hM.shape
  obtain ⟨e0, e1⟩ := hD.box.c2
  have lbg := hD.box.lt
  go_wp2_with fail
  clear e0 e1 lbg
  refine (spec_IsEventGraph _ ge gp _ hD.own.lst).mono ?_
  rintro e wa ⟨rfl, hB2⟩
  replace hD := hD.below hB2
  replace hM := hM.now hB2
  clear hB2
  cases hok : okGraph ge gp
  · clear hok hbd0
    have hmlB : m0.length ≤ 40 := by rw [hml0.out]; exact hlen
    clear hml0
    go_wp2_with fail
    refine (spec_l01Next g 30 _ hD.src (by omega)).mono ?_
    rintro e we ⟨y, rfl, hy, hN⟩
    replace hM := own_draw hM (by decide) hD.src hN
    replace hD := hD.draw hN
    clear hN hy
    by_cases hy0 : y = 0
    · subst hy0
      have hZ : Below we.heap.size we (we.alloc (.cells #[.int .i64 0] 2)) := (Below.refl _ _).alloc (Nat.le_refl _) _
      have hM9 := Lib.hid (hM.now hZ)
      have hD9 := Lib.hid (hD.below hZ)
      have hlenA : m0.length + [(0 : Int)].length ≤ 1099511627776 := by simp; omega
      have hsz : Hid (w.heap.size ≤ (we.alloc (.cells #[.int .i64 0] 2)).heap.size) := hD9.out.grown.size
      have hLL : Hid ((m0 ++ [(0 : Int)]).length = m0.length + 1) := by show _ = _; simp
      clear hM hD hZ
      go_wp2_with (at_builtin; refine wpList_append_lst rfl _ _ 38 rfl intCell 1 intCell_one (by omega) w.heap.size 2 _ 8 Try.underlying38 info_i64 rfl _ _ rfl hM9.out _ _ _ _ [0] rfl (lst_new1 _ _ intCell_len _ _ _ _ rfl _ (by simp)) hlenA (by omega) hsz.out ?_; intro v' w9 hO1 hG1 hD1; obtain ⟨V1, cv1, rfl⟩ := own_shape_n hO1 hLL.out; have hD8 := hD9.out.appU hM9.out hG1; have l0 := hD8.box.lt; obtain ⟨e0, e1⟩ := hD8.box.c2; have f0 := hD8.res.frozen 0; have f1 := hD8.res.frozen 1; have lb2 := hD8.res.lt; obtain ⟨r0, r1⟩ := hD8.res.c2)
      have f0 := hD8.res.frozen 0
      have f1 := hD8.res.frozen 1
      have lb2 := hD8.res.lt
      obtain ⟨r0, r1⟩ := hD8.res.c2
      have hF := Lib.hid hD8.fin
      have hq2 : Hid (CtRet w.heap.size _ _) := Lib.hid ⟨m0 ++ [0], by first | omega | (simp; omega), own_far (own_far hO1 (p := ⟨b2, 0, none⟩) (hO1.ne_blk hD8.res (by decide)) (.int .i64 ge)) (p := ⟨b2, 1, none⟩) (hO1.ne_blk hD8.res (by decide)) (.slice A gp.length c)⟩
      refine bodyPost_ret (v := .tuple #[.agg #[.int .i64 ge, .slice A gp.length c], .slice V1 (m0.length + 1) cv1]) (by simp [results, Try.results130, go_sem, r0, r1]) rfl ⟨ge, gp, _, _, rfl, by omega, by omega, by omega, hF.out.1, hq2.out, hF.out.2⟩
    · have q0 : (y == 0) = false := by simpa using hy0
      by_cases hy1 : y = 1
      · subst hy1
        clear hy0 q0
        by_cases hm0 : 0 < m0.length
        · have hm0I : (0 : Int) < (m0.length : Int) := by omega
          go_wp2_with fail
          have hZ : Below we.heap.size we (we.alloc (.cells #[.int .i64 (-1), .int .i64 100, .int .i64 101] 2)) := (Below.refl _ _).alloc (Nat.le_refl _) _
          replace hM := hM.now hZ
          replace hD := hD.below hZ
          clear hZ
          refine (spec_l01Pick g we.heap.size [-1, 100, 101] _ hD.src (Blk.newAt _ _ rfl) (by simp) (by simp)).mono ?_
          rintro e wk ⟨pk, hpk, rfl, hN⟩
          replace hM := own_draw hM (by decide) hD.src hN
          replace hD := hD.draw hN
          clear hN hpk
          obtain ⟨bu, cu, hu, hub, hul, huf, _⟩ := hM.at_ intCell_len 0 hm0
          obtain rfl : M0 = some ⟨bu, 0, none⟩ := by injection hu
          have hfu := huf 0
          have hM9 := hM.set1 0 hm0 pk
          have hD9 := hD.other (p := ⟨bu, 0, none⟩) hub (fun e => hM.ne_blk hD.res (by decide) (by rw [← e]; rfl)) (fun e => hM.ne_blk hD.box (by decide) (by rw [← e]; rfl)) (fun e => own_ne_own hD.own hM (by decide) bu e rfl) (.int .i64 pk)
          obtain ⟨_, _, _, hcu⟩ := own_ints_at hM 0 hm0
          skip
          clear hM hD hu
          have l0 := hD9.box.lt
          obtain ⟨e0, e1⟩ := hD9.box.c2
          have f0 := hD9.res.frozen 0
          have f1 := hD9.res.frozen 1
          have lb2 := hD9.res.lt
          obtain ⟨r0, r1⟩ := hD9.res.c2
          have hF := Lib.hid hD9.fin
          have hq2 : Hid (CtRet w.heap.size _ _) := Lib.hid ⟨m0.set 0 pk, by first | omega | (simp; omega), own_far (own_far hM9 (p := ⟨b2, 0, none⟩) (hM9.ne_blk hD9.res (by decide)) (.int .i64 ge)) (p := ⟨b2, 1, none⟩) (hM9.ne_blk hD9.res (by decide)) (.slice A gp.length c)⟩
          go_wp2
          refine bodyPost_ret (v := .tuple #[.agg #[.int .i64 ge, .slice A gp.length c], .slice (some ⟨bu, 0, none⟩) m0.length cm0]) (by simp [results, Try.results130, go_sem, r0, r1]) rfl ⟨ge, gp, _, _, rfl, by omega, by omega, by omega, hF.out.1, hq2.out, hF.out.2⟩
        · have hm0I : ¬ (0 : Int) < (m0.length : Int) := by omega
          have l0 := hD.box.lt
          obtain ⟨e0, e1⟩ := hD.box.c2
          have f0 := hD.res.frozen 0
          have f1 := hD.res.frozen 1
          have lb2 := hD.res.lt
          obtain ⟨r0, r1⟩ := hD.res.c2
          have hF := Lib.hid hD.fin
          have hq2 : Hid (CtRet w.heap.size _ _) := Lib.hid ⟨m0, by first | omega | (simp; omega), own_far (own_far hM (p := ⟨b2, 0, none⟩) (hM.ne_blk hD.res (by decide)) (.int .i64 ge)) (p := ⟨b2, 1, none⟩) (hM.ne_blk hD.res (by decide)) (.slice A gp.length c)⟩
          go_wp2
          refine bodyPost_ret (v := .tuple #[.agg #[.int .i64 ge, .slice A gp.length c], .slice M0 m0.length cm0]) (by simp [results, Try.results130, go_sem, r0, r1]) rfl ⟨ge, gp, _, _, rfl, by omega, by omega, by omega, hF.out.1, hq2.out, hF.out.2⟩
      · have q1 : (y == 1) = false := by simpa using hy1
        clear hy0 hy1
        have l0 := hD.box.lt
        obtain ⟨e0, e1⟩ := hD.box.c2
        have f0 := hD.res.frozen 0
        have f1 := hD.res.frozen 1
        have lb2 := hD.res.lt
        obtain ⟨r0, r1⟩ := hD.res.c2
        have hF := Lib.hid hD.fin
        have hq2 : Hid (CtRet w.heap.size _ _) := Lib.hid ⟨m0, by first | omega | (simp; omega), own_far (own_far hM (p := ⟨b2, 0, none⟩) (hM.ne_blk hD.res (by decide)) (.int .i64 ge)) (p := ⟨b2, 1, none⟩) (hM.ne_blk hD.res (by decide)) (.slice A gp.length c)⟩
        go_wp2
        refine bodyPost_ret (v := .tuple #[.agg #[.int .i64 ge, .slice A gp.length c], .slice M0 m0.length cm0]) (by simp [results, Try.results130, go_sem, r0, r1]) rfl ⟨ge, gp, _, _, rfl, by omega, by omega, by omega, hF.out.1, hq2.out, hF.out.2⟩
  · obtain ⟨g1, g2⟩ := okGraph_ev hok
    have hgl := okGraph_len hok
    obtain ⟨n, rfl⟩ := Int.eq_ofNat_of_zero_le hg0
    have hokH := Lib.hid hok
    have hmb0 := Lib.hid (hbd0.out hok)
    clear hok hbd0
    go_wp2_with fail
    refine (spec_l01Next g 12 _ hD.src (by omega)).mono ?_
    rintro e w4 ⟨nn, rfl, hnn, hN⟩
    replace hM := own_draw hM (by decide) hD.src hN
    replace hD := hD.draw hN
    have hn5 : nn < 12 := hnn.2.1 (by omega)
    have hn0 := hnn.1
    clear hN hnn
    go_wp2
    go_loopw [5, 6, 7, 8, 9] (fun mv kv _ _ _ wr => ∃ (m : List Int) (kk : Int), kv = .int .i64 kk ∧ 0 ≤ kk ∧ kk ≤ 11 ∧ Hid (m.length = gp.length) ∧ Hid (∀ x ∈ m, -(50 - kk) ≤ x ∧ x ≤ 50 - kk) ∧ Own intCell 1 2 wr w.heap.size mv m ∧ Dr w g b2 bg wr (n : Int) (.slice A gp.length c) gp) (fun _ kv _ _ _ _ => (intOf kv).toNat)
    case atStart => exact ⟨m0, nn, rfl, hn0, by omega, hml0, fun x hx => by have := hmb0.out x hx; omega, hM, hD⟩
    case round =>
      clear hM hD hmb0 hml0 hn5 hn0
      obtain ⟨m, kk, rfl, hk0, hk1, hml, hmb, hM, hD⟩ := hrel
      obtain ⟨M, cm, rfl⟩ := hM.shape
      by_cases hlt : 0 < kk
      · have hmb2 : Hid (∀ x ∈ m, -1000 ≤ x ∧ x ≤ 1000) := fun x hx => by have := hmb.out x hx; omega
        have wk : IntKind.i64.wrap (kk - 1) = kk - 1 := IntWalk.i64_in _ (by omega)
        have l0 := hD.box.lt
        obtain ⟨e0, e1⟩ := hD.box.c2
        go_wp2_with fail
        clear l0 e0 e1
        refine (spec_l01Next g (n : Int) _ hD.src (by omega)).mono ?_
        rintro e wb ⟨ev, rfl, hev, hN⟩
        replace hM := own_draw hM (by decide) hD.src hN
        replace hD := hD.draw hN
        clear hev hN
        have l0 := hD.box.lt
        obtain ⟨e0, e1⟩ := hD.box.c2
        go_wp2_with fail
        clear l0 e0 e1
        refine (spec_l17EnabledW _ (n : Int) gp _ m ev _ hD.own.lst hM.lst hml.out).mono ?_
        rintro e wc ⟨b, rfl, hB2⟩
        replace hM := hM.now hB2
        replace hD := hD.below hB2
        clear hB2
        cases b
        · go_wp2
          go_roundw
          case rel => exact ⟨m, kk - 1, rfl, by omega, by omega, hml, fun x hx => by have := hmb.out x hx; omega, hM, hD⟩
          case measure => simp [intOf]; omega
        · have l0 := hD.box.lt
          obtain ⟨e0, e1⟩ := hD.box.c2
          go_wp2_with fail
          clear l0 e0 e1
          refine (spec_l17FireW _ n gp _ m ev _ hD.own.lst hM.lst hokH hml hmb2 hgl).mono ?_
          rintro e w10 ⟨y9, rfl, hM2, hB10⟩
          have hM3 := hM2.rebase hD.grown.size
          have hM4 := hM.now hB10
          have hD9 := hD.below hB10
          cases hfm : okMarking gp (fireM gp m ev)
          · go_wp2
            go_roundw
            case rel => exact ⟨m, kk - 1, rfl, by omega, by omega, hml, (fun x hx => by have := hmb.out x hx; omega), hM4, hD9⟩
            case measure => simp [intOf]; omega
          · go_wp2
            go_roundw
            case rel => exact ⟨_, kk - 1, rfl, by omega, by omega, Lib.hid ((fireM_len gp m ev hml.out).trans hml.out), (fun x hx => by have := fireM_bd (B := 50 - kk) hmb.out x hx; omega), hM3, hD9⟩
            case measure => simp [intOf]; omega
      · have hmlB : m.length ≤ 40 := by rw [hml.out]; exact hlen
        clear hml hmb
        obtain ⟨wa, rfl⟩ : ∃ wa : World, wa = wr := ⟨_, rfl⟩
        go_wp2_with fail
        refine (spec_l01Next g 30 _ hD.src (by omega)).mono ?_
        rintro e we ⟨y, rfl, hy, hN⟩
        replace hM := own_draw hM (by decide) hD.src hN
        replace hD := hD.draw hN
        clear hN hy
        by_cases hy0 : y = 0
        · subst hy0
          have hZ : Below we.heap.size we (we.alloc (.cells #[.int .i64 0] 2)) := (Below.refl _ _).alloc (Nat.le_refl _) _
          have hM9 := Lib.hid (hM.now hZ)
          have hD9 := Lib.hid (hD.below hZ)
          have hlenA : m.length + [(0 : Int)].length ≤ 1099511627776 := by simp; omega
          have hsz : Hid (w.heap.size ≤ (we.alloc (.cells #[.int .i64 0] 2)).heap.size) := hD9.out.grown.size
          have hLL : Hid ((m ++ [(0 : Int)]).length = m.length + 1) := by show _ = _; simp
          clear hM hD hZ
          go_wp2_with (at_builtin; refine wpList_append_lst rfl _ _ 38 rfl intCell 1 intCell_one (by omega) w.heap.size 2 _ 8 Try.underlying38 info_i64 rfl _ _ rfl hM9.out _ _ _ _ [0] rfl (lst_new1 _ _ intCell_len _ _ _ _ rfl _ (by simp)) hlenA (by omega) hsz.out ?_; intro v' w9 hO1 hG1 hD1; obtain ⟨V1, cv1, rfl⟩ := own_shape_n hO1 hLL.out; have hD8 := hD9.out.appU hM9.out hG1; have l0 := hD8.box.lt; obtain ⟨e0, e1⟩ := hD8.box.c2; have f0 := hD8.res.frozen 0; have f1 := hD8.res.frozen 1; have lb2 := hD8.res.lt; obtain ⟨r0, r1⟩ := hD8.res.c2)
          have f0 := hD8.res.frozen 0
          have f1 := hD8.res.frozen 1
          have lb2 := hD8.res.lt
          obtain ⟨r0, r1⟩ := hD8.res.c2
          have hF := Lib.hid hD8.fin
          have hq2 : Hid (CtRet w.heap.size _ _) := Lib.hid ⟨m ++ [0], by first | omega | (simp; omega), own_far (own_far hO1 (p := ⟨b2, 0, none⟩) (hO1.ne_blk hD8.res (by decide)) (.int .i64 (n : Nat))) (p := ⟨b2, 1, none⟩) (hO1.ne_blk hD8.res (by decide)) (.slice A gp.length c)⟩
          refine bodyPost_ret (v := .tuple #[.agg #[.int .i64 (n : Nat), .slice A gp.length c], .slice V1 (m.length + 1) cv1]) (by simp [results, Try.results130, go_sem, r0, r1]) rfl ⟨(n : Nat), gp, _, _, rfl, by omega, by omega, by omega, hF.out.1, hq2.out, hF.out.2⟩
        · have q0 : (y == 0) = false := by simpa using hy0
          by_cases hy1 : y = 1
          · subst hy1
            clear hy0 q0
            by_cases hm0 : 0 < m.length
            · have hm0I : (0 : Int) < (m.length : Int) := by omega
              go_wp2_with fail
              have hZ : Below we.heap.size we (we.alloc (.cells #[.int .i64 (-1), .int .i64 100, .int .i64 101] 2)) := (Below.refl _ _).alloc (Nat.le_refl _) _
              replace hM := hM.now hZ
              replace hD := hD.below hZ
              clear hZ
              refine (spec_l01Pick g we.heap.size [-1, 100, 101] _ hD.src (Blk.newAt _ _ rfl) (by simp) (by simp)).mono ?_
              rintro e wk ⟨pk, hpk, rfl, hN⟩
              replace hM := own_draw hM (by decide) hD.src hN
              replace hD := hD.draw hN
              clear hN hpk
              obtain ⟨bu, cu, hu, hub, hul, huf, _⟩ := hM.at_ intCell_len 0 hm0
              obtain rfl : M = some ⟨bu, 0, none⟩ := by injection hu
              have hfu := huf 0
              have hM9 := hM.set1 0 hm0 pk
              have hD9 := hD.other (p := ⟨bu, 0, none⟩) hub (fun e => hM.ne_blk hD.res (by decide) (by rw [← e]; rfl)) (fun e => hM.ne_blk hD.box (by decide) (by rw [← e]; rfl)) (fun e => own_ne_own hD.own hM (by decide) bu e rfl) (.int .i64 pk)
              obtain ⟨_, _, _, hcu⟩ := own_ints_at hM 0 hm0
              skip
              clear hM hD hu
              have l0 := hD9.box.lt
              obtain ⟨e0, e1⟩ := hD9.box.c2
              have f0 := hD9.res.frozen 0
              have f1 := hD9.res.frozen 1
              have lb2 := hD9.res.lt
              obtain ⟨r0, r1⟩ := hD9.res.c2
              have hF := Lib.hid hD9.fin
              have hq2 : Hid (CtRet w.heap.size _ _) := Lib.hid ⟨m.set 0 pk, by first | omega | (simp; omega), own_far (own_far hM9 (p := ⟨b2, 0, none⟩) (hM9.ne_blk hD9.res (by decide)) (.int .i64 (n : Nat))) (p := ⟨b2, 1, none⟩) (hM9.ne_blk hD9.res (by decide)) (.slice A gp.length c)⟩
              go_wp2
              refine bodyPost_ret (v := .tuple #[.agg #[.int .i64 (n : Nat), .slice A gp.length c], .slice (some ⟨bu, 0, none⟩) m.length cm]) (by simp [results, Try.results130, go_sem, r0, r1]) rfl ⟨(n : Nat), gp, _, _, rfl, by omega, by omega, by omega, hF.out.1, hq2.out, hF.out.2⟩
            · have hm0I : ¬ (0 : Int) < (m.length : Int) := by omega
              have l0 := hD.box.lt
              obtain ⟨e0, e1⟩ := hD.box.c2
              have f0 := hD.res.frozen 0
              have f1 := hD.res.frozen 1
              have lb2 := hD.res.lt
              obtain ⟨r0, r1⟩ := hD.res.c2
              have hF := Lib.hid hD.fin
              have hq2 : Hid (CtRet w.heap.size _ _) := Lib.hid ⟨m, by first | omega | (simp; omega), own_far (own_far hM (p := ⟨b2, 0, none⟩) (hM.ne_blk hD.res (by decide)) (.int .i64 (n : Nat))) (p := ⟨b2, 1, none⟩) (hM.ne_blk hD.res (by decide)) (.slice A gp.length c)⟩
              go_wp2
              refine bodyPost_ret (v := .tuple #[.agg #[.int .i64 (n : Nat), .slice A gp.length c], .slice M m.length cm]) (by simp [results, Try.results130, go_sem, r0, r1]) rfl ⟨(n : Nat), gp, _, _, rfl, by omega, by omega, by omega, hF.out.1, hq2.out, hF.out.2⟩
          · have q1 : (y == 1) = false := by simpa using hy1
            clear hy0 hy1
            have l0 := hD.box.lt
            obtain ⟨e0, e1⟩ := hD.box.c2
            have f0 := hD.res.frozen 0
            have f1 := hD.res.frozen 1
            have lb2 := hD.res.lt
            obtain ⟨r0, r1⟩ := hD.res.c2
            have hF := Lib.hid hD.fin
            have hq2 : Hid (CtRet w.heap.size _ _) := Lib.hid ⟨m, by first | omega | (simp; omega), own_far (own_far hM (p := ⟨b2, 0, none⟩) (hM.ne_blk hD.res (by decide)) (.int .i64 (n : Nat))) (p := ⟨b2, 1, none⟩) (hM.ne_blk hD.res (by decide)) (.slice A gp.length c)⟩
            go_wp2
            refine bodyPost_ret (v := .tuple #[.agg #[.int .i64 (n : Nat), .slice A gp.length c], .slice M m.length cm]) (by simp [results, Try.results130, go_sem, r0, r1]) rfl ⟨(n : Nat), gp, _, _, rfl, by omega, by omega, by omega, hF.out.1, hq2.out, hF.out.2⟩
set_option maxHeartbeats 16000000 in
set_option maxRecDepth 100000 in
theorem spec_DrawFireEvent (cv : Value) (bs : List Int) (w : World) (h0 : Lst byteCell 1 w w.heap.size cv bs) (hbv : Hid (∀ b ∈ bs, 0 ≤ b ∧ b ≤ 255)) :
    Calls Try.prog 30 #[cv] w fun e w' => ∃ ge gp v u k, e = .returned (.tuple #[.agg #[.int .i64 ge, v], u, .int .i64 k]) ∧ 0 ≤ ge ∧ ge ≤ 11 ∧ gp.length ≤ 40 ∧ Own Place.cells 4 45 w' w.heap.size v gp ∧ CtRet w.heap.size w' u ∧ Below w.heap.size w w' := by
  go_enter Try.func30, Try.ntmps30
  go_wp2_with fail
  have hA : Below w.heap.size w (w.alloc (.cells #[.int .i64 0, .slice none 0 0] 26)) := (Below.refl _ _).alloc (Nat.le_refl _) _
  have hres := Blk.newAt w (t := 26) (cs := #[.int .i64 0, .slice none 0 0]) _ rfl
  have hszA : (w.alloc (.cells #[.int .i64 0, .slice none 0 0] 26)).heap.size = w.heap.size + 1 := by simp
  refine (spec_l01From _ bs _ (h0.now hA) hbv).mono ?_
  rintro e w1 ⟨rfl, hS, hB1⟩
  rw [hszA] at hS hB1 ⊢
  have hB : Below w.heap.size w w1 := hA.trans (hB1.mono (by omega))
  replace hres := hres.below hB1 (by omega)
  obtain ⟨b2, hb2⟩ : ∃ b2, w.heap.size = b2 := ⟨_, rfl⟩
  obtain ⟨g, hg⟩ : ∃ g, w.heap.size + 1 = g := ⟨_, rfl⟩
  have hgb : w.heap.size ≤ g := by omega
  rw [hg] at hS ⊢
  rw [hb2] at hres
  rw [show (Value.pointer (some ⟨w.heap.size, 0, none⟩)) = .pointer (some ⟨b2, 0, none⟩) by rw [hb2]]
  have hb2w : w.heap.size ≤ b2 := by omega
  have hs1 := hB.size
  clear hA hszA hB1 hb2 hg
  go_wp2_with fail
  refine (spec_l17Draw g _ hS).mono ?_
  rintro e w2 ⟨ge, gp, v, u, rfl, hg0, hg1, hlen, hO, ⟨l, hll, hU⟩, hN⟩
  obtain ⟨A, c, rfl⟩ := hO.shape
  obtain ⟨Y, cy, rfl⟩ := hU.shape
  replace hO := hO.rebase hs1
  replace hU := hU.rebase hs1
  replace hres := blk_draw hres (by decide) hS hN
  replace hB := below_draw hB hs1 hgb hN
  replace hS := hN.1
  have hs2 := hB.size
  clear hN hs1
  have hA2 : Below w2.heap.size w2 (w2.alloc (.cells #[.int .i64 ge, .slice A gp.length c] 26)) := (Below.refl _ _).alloc (Nat.le_refl _) _
  have hbox := Blk.newAt w2 (t := 26) (cs := #[.int .i64 ge, .slice A gp.length c]) _ rfl
  have hne : b2 ≠ w2.heap.size := by have := hres.lt; omega
  go_wp2_with fail
  replace hO := hO.now hA2
  replace hU := hU.now hA2
  replace hres := hres.now hA2
  replace hB := hB.trans (hA2.mono hs2)
  replace hS := hS.now hA2
  generalize w2.alloc (.cells #[.int .i64 ge, .slice A gp.length c] 26) = wx at *
  obtain ⟨bg, hbg⟩ : ∃ bg, w2.heap.size = bg := ⟨_, rfl⟩
  rw [hbg] at hbox hne ⊢
  clear hA2 hs2 hbg
  refine (spec_l01Next g 30 _ hS (by omega)).mono ?_
  rintro e wa ⟨y30, rfl, hy, hN⟩
  replace hO := own_draw hO (by decide) hS hN
  replace hU := own_draw hU (by decide) hS hN
  replace hres := blk_draw hres (by decide) hS hN
  replace hbox := blk_draw hbox (by decide) hS hN
  replace hB := below_draw hB hB.size hgb hN
  replace hS := hN.1
  clear hN
  clear hy
  by_cases hz : y30 = 0
  · have q30 : (y30 == 0) = true := by simp [hz]
    clear hz
    have hBd : Below wa.heap.size wa wa.drew := Below.drew (Below.refl _ wa)
    replace hO := hO.now hBd
    replace hU := hU.now hBd
    replace hres := hres.now hBd
    replace hbox := hbox.now hBd
    replace hB := hB.trans (hBd.mono hB.size)
    replace hS := hS.now hBd
    obtain ⟨e0, e1⟩ := hbox.c2
    have lbg := hbox.lt
    clear hBd
    go_wp2_with fail
    refine wp_region_held_drew (S := fun w' => w'.cell? ⟨bg, 0, none⟩ = some (.int .i64 ge) ∧ w'.cell? ⟨bg, 1, none⟩ = some (.slice A gp.length c)) (by kernel_rfl) ⟨e0, e1⟩ (fun hH => ?_)
    generalize wa.drew = Va at *
    refine wpAnyH_take (i := 0) (oi := { dst := _, op := _, type := _, pos := _, after := _, guard := _ }) (v := ?_) rfl (by kernel_rfl) (by kernel_rfl) (by kernel_rfl) (fun _ _ _ h => h) (Or.inl ⟨by rfl, ?_⟩) hH ?_
    rotate_left
    · intro w9 hSw
      try dsimp only at hSw
      obtain ⟨s0, s1⟩ := hSw
      go_simp
      try with_reducible rfl
    try simp only [Act.put, List.setIfInBounds_toArray, List.set_cons_zero, List.set_cons_succ]
    refine wpAnyH_take (i := 1) (oi := { dst := _, op := _, type := _, pos := _, after := _, guard := _ }) (v := ?_) rfl (by kernel_rfl) (by kernel_rfl) (by kernel_rfl) (fun _ _ _ h => h) (Or.inl ⟨by rfl, ?_⟩) hH ?_
    rotate_left
    · intro w9 hSw
      try dsimp only at hSw
      obtain ⟨s0, s1⟩ := hSw
      go_simp
      try with_reducible rfl
    try simp only [Act.put, List.setIfInBounds_toArray, List.set_cons_zero, List.set_cons_succ]
    refine wpAnyH_take (i := 2) (oi := { dst := _, op := _, type := _, pos := _, after := _, guard := _ }) (v := ?_) rfl (by kernel_rfl) (by kernel_rfl) (by kernel_rfl) (fun _ _ _ h => h) (Or.inl ⟨by rfl, ?_⟩) hH ?_
    rotate_left
    · intro w9 hSw
      try dsimp only at hSw
      obtain ⟨s0, s1⟩ := hSw
      go_simp
      try with_reducible rfl
    try simp only [Act.put, List.setIfInBounds_toArray, List.set_cons_zero, List.set_cons_succ]
    refine wpAnyH_take (i := 3) (oi := { dst := _, op := _, type := _, pos := _, after := _, guard := _ }) (v := ?_) rfl (by kernel_rfl) (by kernel_rfl) (by kernel_rfl) (fun _ _ _ h => h) (Or.inl ⟨by rfl, ?_⟩) hH ?_
    rotate_left
    · intro w9 hSw
      try dsimp only at hSw
      obtain ⟨s0, s1⟩ := hSw
      go_simp
      try with_reducible rfl
    try simp only [Act.put, List.setIfInBounds_toArray, List.set_cons_zero, List.set_cons_succ]
    refine wpAnyH_take (i := 4) (oi := { dst := _, op := _, type := _, pos := _, after := _, guard := _ }) (v := ?_) rfl (by kernel_rfl) (by kernel_rfl) (by kernel_rfl) (fun _ _ _ h => h) (Or.inl ⟨by rfl, ?_⟩) hH ?_
    rotate_left
    · intro w9 hSw
      try dsimp only at hSw
      obtain ⟨s0, s1⟩ := hSw
      go_simp
      try with_reducible rfl
    try simp only [Act.put, List.setIfInBounds_toArray, List.set_cons_zero, List.set_cons_succ]
    refine wpAnyH_ready (rs := [5]) (by kernel_rfl) (by simp) ?_
    refine AllReadyH.cons rfl (fun K hK => ?_) AllReadyH.nil
    have hZ : Below Va.heap.size Va (Va.alloc (.cells #[.int .i64 (-1), .int .i64 ge] 2)) := (Below.refl _ _).alloc (Nat.le_refl _) _
    replace hO := hO.now hZ
    replace hU := hU.now hZ
    replace hres := hres.now hZ
    replace hbox := hbox.now hZ
    replace hB := hB.trans (hZ.mono hB.size)
    replace hS := hS.now hZ
    clear hZ e0 e1
    obtain ⟨e0, e1⟩ := hbox.c2
    go_simp
    refine hK.out _ _ ⟨e0, e1⟩ (fun hH => ?_)
    clear hK K
    try simp only [Act.put, List.setIfInBounds_toArray, List.set_cons_zero, List.set_cons_succ]
    refine wpAnyH_ready (rs := [6]) (by kernel_rfl) (by simp) ?_
    refine AllReadyH.cons rfl (fun K hK => ?_) AllReadyH.nil
    go_simp
    go_at_call 111
    refine (spec_l01Pick g Va.heap.size [-1, ge] _ hS (Blk.newAt _ _ rfl) (by simp) (by simp)).mono ?_
    rintro e vb ⟨kk, hkk, rfl, hN⟩
    replace hO := own_draw hO (by decide) hS hN
    replace hU := own_draw hU (by decide) hS hN
    replace hres := blk_draw hres (by decide) hS hN
    replace hbox := blk_draw hbox (by decide) hS hN
    replace hB := below_draw hB hB.size hgb hN
    replace hS := hN.1
    clear hN
    clear hkk e0 e1
    obtain ⟨e0, e1⟩ := hbox.c2
    refine hK.out _ _ ⟨e0, e1⟩ (fun hH => ?_)
    clear hK K
    try simp only [Act.put, List.setIfInBounds_toArray, List.set_cons_zero, List.set_cons_succ]
    have f0 := hres.frozen 0
    have f1 := hres.frozen 1
    have lb2 := hres.lt
    obtain ⟨r0, r1⟩ := hres.c2
    have hq1 := Lib.hid (own_far (own_far hO (p := ⟨b2, 0, none⟩) (hO.ne_blk hres (by decide)) (.int .i64 ge)) (p := ⟨b2, 1, none⟩) (hO.ne_blk hres (by decide)) (.slice A gp.length c))
    have hq2 : Hid (CtRet w.heap.size _ _) := Lib.hid ⟨l, by omega, own_far (own_far hU (p := ⟨b2, 0, none⟩) (hU.ne_blk hres (by decide)) (.int .i64 ge)) (p := ⟨b2, 1, none⟩) (hU.ne_blk hres (by decide)) (.slice A gp.length c)⟩
    have hq3 := Lib.hid ((hB.setCell (p := ⟨b2, 0, none⟩) hb2w (.int .i64 ge)).setCell (p := ⟨b2, 1, none⟩) hb2w (.slice A gp.length c))
    have hbx := (hbox.far (p := ⟨b2, 0, none⟩) (Ne.symm hne) (.int .i64 ge)).far (p := ⟨b2, 1, none⟩) (Ne.symm hne) (.slice A gp.length c)
    obtain ⟨x0, x1⟩ := hbx.c2
    refine wpAnyH_ready (rs := [7]) (by kernel_rfl) (by simp) ?_
    refine AllReadyH.cons rfl (fun K hK => ?_) AllReadyH.nil
    go_simp
    refine hK.out _ _ ⟨x0, x1⟩ (fun hH => ?_)
    clear hK K
    try simp only [Act.put, List.setIfInBounds_toArray, List.set_cons_zero, List.set_cons_succ]
    refine wpAnyH_take (i := 8) (oi := { dst := _, op := _, type := _, pos := _, after := _, guard := _ }) (v := ?_) rfl (by kernel_rfl) (by kernel_rfl) (by kernel_rfl) (fun _ _ _ h => h) (Or.inl ⟨by rfl, ?_⟩) hH ?_
    rotate_left
    · intro w9 hSw
      try dsimp only at hSw
      obtain ⟨s0, s1⟩ := hSw
      go_simp
      try with_reducible rfl
    try simp only [Act.put, List.setIfInBounds_toArray, List.set_cons_zero, List.set_cons_succ]
    refine wpAnyH_take (i := 9) (oi := { dst := _, op := _, type := _, pos := _, after := _, guard := _ }) (v := ?_) rfl (by kernel_rfl) (by kernel_rfl) (by kernel_rfl) (fun _ _ _ h => h) (Or.inl ⟨by rfl, ?_⟩) hH ?_
    rotate_left
    · intro w9 hSw
      try dsimp only at hSw
      obtain ⟨s0, s1⟩ := hSw
      go_simp
      try with_reducible rfl
    try simp only [Act.put, List.setIfInBounds_toArray, List.set_cons_zero, List.set_cons_succ]
    refine wpAnyH_done (by kernel_rfl) ?_ _
    clear hH hbx x0 x1 e0 e1 hO hU hres hbox hB hS
    go_wp2
    refine bodyPost_ret (v := .tuple #[.agg #[.int .i64 ge, .slice A gp.length c], .slice Y l.length cy, .int .i64 kk]) (by simp [results, Try.results30, go_sem, r0, r1]) rfl ⟨ge, gp, _, _, kk, rfl, by omega, by omega, by omega, hq1.out, hq2.out, hq3.out⟩
  · have q30 : (y30 == 0) = false := by simpa using hz
    clear hz
    have hBd : Below wa.heap.size wa wa.drew := Below.drew (Below.refl _ wa)
    replace hO := hO.now hBd
    replace hU := hU.now hBd
    replace hres := hres.now hBd
    replace hbox := hbox.now hBd
    replace hB := hB.trans (hBd.mono hB.size)
    replace hS := hS.now hBd
    obtain ⟨e0, e1⟩ := hbox.c2
    have lbg := hbox.lt
    clear hBd
    go_wp2_with fail
    refine wp_region_held_drew (S := fun w' => w'.cell? ⟨bg, 0, none⟩ = some (.int .i64 ge) ∧ w'.cell? ⟨bg, 1, none⟩ = some (.slice A gp.length c)) (by kernel_rfl) ⟨e0, e1⟩ (fun hH => ?_)
    generalize wa.drew = Va at *
    refine wpAnyH_take (i := 0) (oi := { dst := _, op := _, type := _, pos := _, after := _, guard := _ }) (v := ?_) rfl (by kernel_rfl) (by kernel_rfl) (by kernel_rfl) (fun _ _ _ h => h) (Or.inl ⟨by rfl, ?_⟩) hH ?_
    rotate_left
    · intro w9 hSw
      try dsimp only at hSw
      obtain ⟨s0, s1⟩ := hSw
      go_simp
      try with_reducible rfl
    try simp only [Act.put, List.setIfInBounds_toArray, List.set_cons_zero, List.set_cons_succ]
    refine wpAnyH_take (i := 1) (oi := { dst := _, op := _, type := _, pos := _, after := _, guard := _ }) (v := ?_) rfl (by kernel_rfl) (by kernel_rfl) (by kernel_rfl) (fun _ _ _ h => h) (Or.inl ⟨by rfl, ?_⟩) hH ?_
    rotate_left
    · intro w9 hSw
      try dsimp only at hSw
      obtain ⟨s0, s1⟩ := hSw
      go_simp
      try with_reducible rfl
    try simp only [Act.put, List.setIfInBounds_toArray, List.set_cons_zero, List.set_cons_succ]
    refine wpAnyH_take (i := 2) (oi := { dst := _, op := _, type := _, pos := _, after := _, guard := _ }) (v := ?_) rfl (by kernel_rfl) (by kernel_rfl) (by kernel_rfl) (fun _ _ _ h => h) (Or.inl ⟨by rfl, ?_⟩) hH ?_
    rotate_left
    · intro w9 hSw
      try dsimp only at hSw
      obtain ⟨s0, s1⟩ := hSw
      go_simp
      try with_reducible rfl
    try simp only [Act.put, List.setIfInBounds_toArray, List.set_cons_zero, List.set_cons_succ]
    refine wpAnyH_take (i := 3) (oi := { dst := _, op := _, type := _, pos := _, after := _, guard := _ }) (v := ?_) rfl (by kernel_rfl) (by kernel_rfl) (by kernel_rfl) (fun _ _ _ h => h) (Or.inl ⟨by rfl, ?_⟩) hH ?_
    rotate_left
    · intro w9 hSw
      try dsimp only at hSw
      obtain ⟨s0, s1⟩ := hSw
      go_simp
      try with_reducible rfl
    try simp only [Act.put, List.setIfInBounds_toArray, List.set_cons_zero, List.set_cons_succ]
    refine wpAnyH_take (i := 4) (oi := { dst := _, op := _, type := _, pos := _, after := _, guard := _ }) (v := ?_) rfl (by kernel_rfl) (by kernel_rfl) (by kernel_rfl) (fun _ _ _ h => h) (Or.inl ⟨by rfl, ?_⟩) hH ?_
    rotate_left
    · intro w9 hSw
      try dsimp only at hSw
      obtain ⟨s0, s1⟩ := hSw
      go_simp
      try with_reducible rfl
    try simp only [Act.put, List.setIfInBounds_toArray, List.set_cons_zero, List.set_cons_succ]
    refine wpAnyH_ready (rs := [5]) (by kernel_rfl) (by simp) ?_
    refine AllReadyH.cons rfl (fun K hK => ?_) AllReadyH.nil
    go_simp
    go_at_call 112
    refine (spec_l01Next g ge _ hS (by omega)).mono ?_
    rintro e vb ⟨kk, rfl, hkk, hN⟩
    replace hO := own_draw hO (by decide) hS hN
    replace hU := own_draw hU (by decide) hS hN
    replace hres := blk_draw hres (by decide) hS hN
    replace hbox := blk_draw hbox (by decide) hS hN
    replace hB := below_draw hB hB.size hgb hN
    replace hS := hN.1
    clear hN
    clear hkk e0 e1
    obtain ⟨e0, e1⟩ := hbox.c2
    refine hK.out _ _ ⟨e0, e1⟩ (fun hH => ?_)
    clear hK K
    try simp only [Act.put, List.setIfInBounds_toArray, List.set_cons_zero, List.set_cons_succ]
    have f0 := hres.frozen 0
    have f1 := hres.frozen 1
    have lb2 := hres.lt
    obtain ⟨r0, r1⟩ := hres.c2
    have hq1 := Lib.hid (own_far (own_far hO (p := ⟨b2, 0, none⟩) (hO.ne_blk hres (by decide)) (.int .i64 ge)) (p := ⟨b2, 1, none⟩) (hO.ne_blk hres (by decide)) (.slice A gp.length c))
    have hq2 : Hid (CtRet w.heap.size _ _) := Lib.hid ⟨l, by omega, own_far (own_far hU (p := ⟨b2, 0, none⟩) (hU.ne_blk hres (by decide)) (.int .i64 ge)) (p := ⟨b2, 1, none⟩) (hU.ne_blk hres (by decide)) (.slice A gp.length c)⟩
    have hq3 := Lib.hid ((hB.setCell (p := ⟨b2, 0, none⟩) hb2w (.int .i64 ge)).setCell (p := ⟨b2, 1, none⟩) hb2w (.slice A gp.length c))
    have hbx := (hbox.far (p := ⟨b2, 0, none⟩) (Ne.symm hne) (.int .i64 ge)).far (p := ⟨b2, 1, none⟩) (Ne.symm hne) (.slice A gp.length c)
    obtain ⟨x0, x1⟩ := hbx.c2
    refine wpAnyH_ready (rs := [6]) (by kernel_rfl) (by simp) ?_
    refine AllReadyH.cons rfl (fun K hK => ?_) AllReadyH.nil
    go_simp
    refine hK.out _ _ ⟨x0, x1⟩ (fun hH => ?_)
    clear hK K
    try simp only [Act.put, List.setIfInBounds_toArray, List.set_cons_zero, List.set_cons_succ]
    refine wpAnyH_take (i := 7) (oi := { dst := _, op := _, type := _, pos := _, after := _, guard := _ }) (v := ?_) rfl (by kernel_rfl) (by kernel_rfl) (by kernel_rfl) (fun _ _ _ h => h) (Or.inl ⟨by rfl, ?_⟩) hH ?_
    rotate_left
    · intro w9 hSw
      try dsimp only at hSw
      obtain ⟨s0, s1⟩ := hSw
      go_simp
      try with_reducible rfl
    try simp only [Act.put, List.setIfInBounds_toArray, List.set_cons_zero, List.set_cons_succ]
    refine wpAnyH_take (i := 8) (oi := { dst := _, op := _, type := _, pos := _, after := _, guard := _ }) (v := ?_) rfl (by kernel_rfl) (by kernel_rfl) (by kernel_rfl) (fun _ _ _ h => h) (Or.inl ⟨by rfl, ?_⟩) hH ?_
    rotate_left
    · intro w9 hSw
      try dsimp only at hSw
      obtain ⟨s0, s1⟩ := hSw
      go_simp
      try with_reducible rfl
    try simp only [Act.put, List.setIfInBounds_toArray, List.set_cons_zero, List.set_cons_succ]
    refine wpAnyH_done (by kernel_rfl) ?_ _
    clear hH hbx x0 x1 e0 e1 hO hU hres hbox hB hS
    go_wp2
    refine bodyPost_ret (v := .tuple #[.agg #[.int .i64 ge, .slice A gp.length c], .slice Y l.length cy, .int .i64 kk]) (by simp [results, Try.results30, go_sem, r0, r1]) rfl ⟨ge, gp, _, _, kk, rfl, by omega, by omega, by omega, hq1.out, hq2.out, hq3.out⟩
end Go.Proofs.Ytkbhbmoogkjafaa
