/-
  The walks of the draws of a graph with not too many circuits, of a place whose rooms are tried, and of a place and a room.
-/
import Derived.Test.YtbdklhahbeiffaaDrX
import Derived.Test.YtbdklhahbeiffaaDrD
namespace Go.Proofs.Ytbdklhahbeiffaa
open Go.RowKit
set_option linter.unusedVariables false
set_option linter.unusedSimpArgs false
/-- The places are cut. -/
theorem Dr.cut {w0 W : World} {g b2 bg : Nat} {ge : Int} {A : Option Addr} {n c : Nat} {gp : List Place} (h : Dr w0 g b2 bg W ge (.slice A n c) gp) (k : Nat) (hk : k ≤ gp.length) : Dr w0 g b2 bg (W.setCell ⟨bg, 1, none⟩ (.slice A k c)) ge (.slice A k c) (gp.take k) := by
  have hg := h.hg
  have h2 := h.hbg
  have hneB := h.own.ne_blk h.box (by decide)
  refine ⟨h.src.kept (grown_setC W ⟨bg, 1, none⟩ _) (fun k e => by injection e with e; simp only at e; omega), ?_, h.res.far (p := ⟨bg, 1, none⟩) h.hne _, h.box.set2b, own_take Place.cells_len (own_far h.own (p := ⟨bg, 1, none⟩) hneB _) k hk, h.hb2, h.hbg, h.hne, hg⟩
  have hG := h.grown
  exact ⟨hG.os, hG.tape, hG.output, by simpa [World.setCell] using hG.size, fun i hi hne => (Below.heap_setCell W ⟨bg, 1, none⟩ _ i (by simp only; omega)).trans (hG.block i hi hne)⟩
set_option maxHeartbeats 4000000 in
set_option maxRecDepth 100000 in
theorem spec_l15Draw (g : Nat) (w : World) (h : Src w g) :
    Calls Try.prog 126 #[.pointer (some ⟨g, 0, none⟩)] w fun e w' => ∃ ge gp v, e = .returned (.agg #[.int .i64 ge, v]) ∧ 0 ≤ ge ∧ ge ≤ 11 ∧ gp.length ≤ 40 ∧ Own Place.cells 4 101 w' w.heap.size v gp ∧ Drawn w g w' := by
  have hgw := h.lt
  go_enter Try.func126, Try.ntmps126
  go_wp2_with fail
  have hA : Below w.heap.size w (w.alloc (.cells #[.int .i64 0, .slice none 0 0] 32)) := (Below.refl _ _).alloc (Nat.le_refl _) _
  refine (spec_l11Draw g _ (h.now hA)).mono ?_
  rintro e w1 ⟨ge, gp, v, rfl, hg0, hg1, hlen, hO, hN⟩
  obtain ⟨A, c, rfl⟩ := hO.shape
  have hcl : gp.length ≤ c := own_cap hO
  have hres := (Blk.new w 32 #[.int .i64 0, .slice none 0 0]).grown hN.2 (fun e => by injection e with e; omega)
  have hG1 := grown_trans (grown_of_below (r := some g) hA) hN.2
  have hs1 := hG1.size
  have hlt1 := hres.lt
  have hA2 : Below w1.heap.size w1 (w1.alloc (.cells #[.int .i64 ge, .slice A gp.length c] 32)) := (Below.refl _ _).alloc (Nat.le_refl _) _
  have hD : Dr w g w.heap.size w1.heap.size (w1.alloc (.cells #[.int .i64 ge, .slice A gp.length c] 32)) ge (.slice A gp.length c) gp :=
    ⟨hN.1.now hA2, grown_trans hG1 (grown_of_below hA2), hres.now hA2, Blk.newAt _ _ rfl, (hO.rebase hA.size).now hA2, Nat.le_refl _, hs1, by omega, hgw⟩
  go_upto_region 2 with fail
  obtain ⟨bg, hbg⟩ : ∃ bg, w1.heap.size = bg := ⟨_, rfl⟩
  obtain ⟨b2, hb2⟩ : ∃ b2, w.heap.size = b2 := ⟨_, rfl⟩
  have hD' : Dr w g b2 bg (w1.alloc (.cells #[.int .i64 ge, .slice A gp.length c] 32)) ge (.slice A gp.length c) gp := by rw [← hb2, ← hbg]; exact hD
  rw [hbg]
  rw [show (Value.pointer (some ⟨w.heap.size, 0, none⟩)) = .pointer (some ⟨b2, 0, none⟩) by rw [hb2]]
  clear hN hO hres hG1 hs1 hlt1 hD hA hA2 hbg hb2
  generalize w1.alloc (.cells #[.int .i64 ge, .slice A gp.length c] 32) = W2 at *
  obtain ⟨e0, e1⟩ := hD'.box.c2
  have lbg := hD'.box.lt
  have hl9 : Hid (gp.length ≤ 40) := hlen
  by_cases hgt : 20 < gp.length
  · have hgtI : (20 : Int) < (gp.length : Int) := by omega
    by_cases hev : 2 < ge
    · have hD := hD'.cut 20 (by omega)
      have hF := Lib.hid hD.fin
      have q0 := hD'.box.frozen 0
      have q1 := hD'.box.frozen 1
      have p0 := hD.res.frozen 0
      have p1 := hD.res.frozen 1
      have lb2 := hD.res.lt
      obtain ⟨r0, r1⟩ := hD.res.c2
      obtain ⟨x0, x1⟩ := hD.box.c2
      have lx := hD.box.lt
      have h20c : (20 : Int) ≤ (c : Int) := by omega
      have h20c2 : 20 ≤ c := by omega
      clear hD hD'
      go_wp2
      refine bodyPost_ret (v := .agg #[.int .i64 ge, .slice A 20 c]) (by simp [results, Try.results126, go_sem, r0, r1]) rfl ⟨ge, gp.take 20, _, rfl, by omega, by omega, by simp; omega, hF.out.1, hF.out.2⟩
    · skip
      have hF := Lib.hid hD'.fin
      have p0 := hD'.res.frozen 0
      have p1 := hD'.res.frozen 1
      have lb2 := hD'.res.lt
      obtain ⟨r0, r1⟩ := hD'.res.c2
      clear hD'
      go_wp2
      refine bodyPost_ret (v := .agg #[.int .i64 ge, .slice A gp.length c]) (by simp [results, Try.results126, go_sem, r0, r1]) rfl ⟨ge, gp, _, rfl, by omega, by omega, hl9.out, hF.out.1, hF.out.2⟩
  · have hgtI : ¬ (20 : Int) < (gp.length : Int) := by omega
    have hF := Lib.hid hD'.fin
    have p0 := hD'.res.frozen 0
    have p1 := hD'.res.frozen 1
    have lb2 := hD'.res.lt
    obtain ⟨r0, r1⟩ := hD'.res.c2
    clear hD'
    go_wp2
    refine bodyPost_ret (v := .agg #[.int .i64 ge, .slice A gp.length c]) (by simp [results, Try.results126, go_sem, r0, r1]) rfl ⟨ge, gp, _, rfl, by omega, by omega, hl9.out, hF.out.1, hF.out.2⟩
/-- A graph and a number, drawn. -/
def GiRet (w : World) (e : Ending) (w' : World) : Prop := ∃ ge gp v n, e = .returned (.tuple #[.agg #[.int .i64 ge, v], .int .i64 n]) ∧ 0 ≤ ge ∧ ge ≤ 11 ∧ gp.length ≤ 40 ∧ Own Place.cells 4 101 w' w.heap.size v gp ∧ Below w.heap.size w w'
theorem GiRet.mk {w w' : World} {ge n : Int} {gp : List Place} {v : Value} (h1 : 0 ≤ ge) (h2 : ge ≤ 11) (h3 : gp.length ≤ 40) (hO : Own Place.cells 4 101 w' w.heap.size v gp) (hB : Below w.heap.size w w') : GiRet w (.returned (.tuple #[.agg #[.int .i64 ge, v], .int .i64 n])) w' := ⟨ge, gp, v, n, rfl, h1, h2, h3, hO, hB⟩
/-- A short list of numbers of the call's own. -/
def RmRet (B : Nat) (w' : World) (u : Value) : Prop := ∃ l : List Int, l.length ≤ 10 ∧ Own intCell 1 2 w' B u l
theorem Dr.appN {w0 W W' : World} {g b2 bg : Nat} {ge : Int} {v uv : Value} {gp : List Place} {l : List Int} (h : Dr w0 g b2 bg W ge v gp) (hU : Own intCell 1 2 W w0.heap.size uv l) (hG : W.grownBy W' uv.ownBlock) : Dr w0 g b2 bg W' ge v gp := by
  have hG0 := h.grown
  refine ⟨h.src.kept hG (fun k e => by have := (hU.lt k e).1; have := h.hg; omega), ⟨hG.os.trans hG0.os, hG.tape.trans hG0.tape, hG.output.trans hG0.output, Nat.le_trans hG0.size hG.size, fun i hi hn => (hG.block i (Nat.lt_of_lt_of_le hi hG0.size) (fun e => by have := (hU.lt i e.symm).1; omega)).trans (hG0.block i hi hn)⟩, h.res.grown hG (fun e => hU.ne_blk h.res (by decide) e.symm), h.box.grown hG (fun e => hU.ne_blk h.box (by decide) e.symm), own_kept h.own hG (own_ne_own h.own hU (by decide)), h.hb2, h.hbg, h.hne, h.hg⟩
set_option maxHeartbeats 16000000 in
set_option maxRecDepth 100000 in
theorem spec_l16Draw (g : Nat) (most : Int) (w : World) (h : Src w g) (hm : 1 ≤ most ∧ most ≤ 3) :
    Calls Try.prog 67 #[.pointer (some ⟨g, 0, none⟩), .int .i64 most] w fun e w' => ∃ ge gp v u, e = .returned (.tuple #[.agg #[.int .i64 ge, v], u]) ∧ 0 ≤ ge ∧ ge ≤ 11 ∧ gp.length ≤ 40 ∧ Own Place.cells 4 101 w' w.heap.size v gp ∧ RmRet w.heap.size w' u ∧ Drawn w g w' := by
  have hgw := h.lt
  go_enter Try.func67, Try.ntmps67
  go_wp2_with fail
  have hA : Below w.heap.size w (w.alloc (.cells #[.int .i64 0, .slice none 0 0] 32)) := (Below.refl _ _).alloc (Nat.le_refl _) _
  refine (spec_l15Draw g _ (h.now hA)).mono ?_
  rintro e w1 ⟨ge, gp, v, rfl, hg0, hg1, hlen, hO, hN⟩
  obtain ⟨A, c, rfl⟩ := hO.shape
  have hcl : gp.length ≤ c := own_cap hO
  have hres := (Blk.new w 32 #[.int .i64 0, .slice none 0 0]).grown hN.2 (fun e => by injection e with e; omega)
  have hG1 := grown_trans (grown_of_below (r := some g) hA) hN.2
  have hs1 := hG1.size
  have hlt1 := hres.lt
  have hA2 : Below w1.heap.size w1 (w1.alloc (.cells #[.int .i64 ge, .slice A gp.length c] 32)) := (Below.refl _ _).alloc (Nat.le_refl _) _
  have hD : Dr w g w.heap.size w1.heap.size (w1.alloc (.cells #[.int .i64 ge, .slice A gp.length c] 32)) ge (.slice A gp.length c) gp :=
    ⟨hN.1.now hA2, grown_trans hG1 (grown_of_below hA2), hres.now hA2, Blk.newAt _ _ rfl, (hO.rebase hA.size).now hA2, Nat.le_refl _, hs1, by omega, hgw⟩
  go_upto_region 2 with fail
  obtain ⟨bg, hbg⟩ : ∃ bg, w1.heap.size = bg := ⟨_, rfl⟩
  obtain ⟨b2, hb2⟩ : ∃ b2, w.heap.size = b2 := ⟨_, rfl⟩
  have hD' : Dr w g b2 bg (w1.alloc (.cells #[.int .i64 ge, .slice A gp.length c] 32)) ge (.slice A gp.length c) gp := by rw [← hb2, ← hbg]; exact hD
  rw [hbg]
  rw [show (Value.pointer (some ⟨w.heap.size, 0, none⟩)) = .pointer (some ⟨b2, 0, none⟩) by rw [hb2]]
  clear hN hO hres hG1 hs1 hlt1 hD hA hA2 hbg hb2
  generalize w1.alloc (.cells #[.int .i64 ge, .slice A gp.length c] 32) = W2 at *
  obtain ⟨e0, e1⟩ := hD'.box.c2
  have lbg := hD'.box.lt
  by_cases hgt : 9 < gp.length
  · have hgtI : (9 : Int) < (gp.length : Int) := by omega
    go_wp2_with fail
    clear e0 e1 lbg
    refine (spec_l01Next g 8 _ hD'.src (by omega)).mono ?_
    rintro e wa ⟨y8, rfl, hy, hN⟩
    have hD := hD'.draw hN
    clear hN hy hD'
    obtain ⟨e0, e1⟩ := hD.box.c2
    have lbg := hD.box.lt
    by_cases hy0 : 0 < y8
    · have hDc := hD.cut 9 (by omega)
      have q0 := hD.box.frozen 0
      have q1 := hD.box.frozen 1
      have h9c : (9 : Int) ≤ (c : Int) := by omega
      have h9c2 : 9 ≤ c := by omega
      have hgl : (gp.take 9).length ≤ 40 := by simp; omega
      go_upto_region 4 with fail
      clear e0 e1 lbg q0 q1 h9c h9c2 hD hcl hgt hgtI
      generalize wa.setCell ⟨bg, 1, none⟩ (.slice A 9 c) = wz at *
      generalize gp.take 9 = gq at *
      have hD := hDc
      clear hDc hlen
      have hnI : (0 : Int) < 9 := by omega
      obtain ⟨p0, p1⟩ := hD.box.c2
      have lpb := hD.box.lt
      have hs9 := hD.grown.size
      have hZ : Below wz.heap.size wz (wz.alloc (.cells #[] 2)) := (Below.refl _ _).alloc (Nat.le_refl _) _
      have hU : Own intCell 1 2 (wz.alloc (.cells #[] 2)) w.heap.size (.slice (some ⟨wz.heap.size, 0, none⟩) 0 0) ([] : List Int) := own_new0 intCell 1 wz 2 w.heap.size hs9
      replace hD := hD.below hZ
      clear hZ hs9
      obtain ⟨e0, e1⟩ := hD.box.c2
      have lbg := hD.box.lt
      go_wp2_with fail
      clear e0 e1 lbg p0 p1 lpb
      refine (spec_l01Next g most _ hD.src (by omega)).mono ?_
      rintro e wt ⟨k4, rfl, hk4, hN⟩
      replace hU := own_draw hU (by decide) hD.src hN
      replace hD := hD.draw hN
      have hk40 := hk4.1
      have hk41 : k4 ≤ 2 := by obtain ⟨n1, n2, n3⟩ := hk4; omega
      have wk4 : IntKind.i64.wrap (1 + k4) = 1 + k4 := IntWalk.i64_in _ (by omega)
      clear hk4 hN
      go_wp2
      go_loopw [7, 8, 9] (fun uv kv _ wr => ∃ (l : List Int) (kk : Int), kv = .int .i64 kk ∧ 0 ≤ kk ∧ kk ≤ 3 ∧ (l.length : Int) ≤ 3 - kk ∧ Own intCell 1 2 wr w.heap.size uv l ∧ Dr w g b2 bg wr ge (.slice A 9 c) gq) (fun _ kv _ _ => (intOf kv).toNat)
      case atStart => exact ⟨[], 1 + k4, rfl, by omega, by omega, by simp; omega, hU, hD⟩
      case round =>
        clear hU hD hk40 hk41 wk4
        obtain ⟨l, kk, rfl, hk0, hk1, hll, hU, hD⟩ := hrel
        obtain ⟨Y, cy, rfl⟩ := hU.shape
        obtain ⟨e0, e1⟩ := hD.box.c2
        have lbg := hD.box.lt
        by_cases hlt : 0 < kk
        · have wk : IntKind.i64.wrap (kk - 1) = kk - 1 := IntWalk.i64_in _ (by omega)
          go_wp2_with fail
          clear e0 e1 lbg
          refine (spec_l01Next g 9 _ hD.src (by omega)).mono ?_
          rintro e wu ⟨x1, rfl, hx1, hN⟩
          replace hU := own_draw hU (by decide) hD.src hN
          replace hD := hD.draw hN
          clear hx1 hN
          cases hh : hasI l x1
          · have hhH := Lib.hid hh
            clear hh
            have hZ : Below wu.heap.size wu (wu.alloc (.cells #[.int .i64 x1] 2)) := (Below.refl _ _).alloc (Nat.le_refl _) _
            have hU9 := Lib.hid (hU.now hZ)
            have hD9 := Lib.hid (hD.below hZ)
            have hlenA : l.length + [x1].length ≤ 1099511627776 := by simp; omega
            have hsz : Hid (w.heap.size ≤ (wu.alloc (.cells #[.int .i64 x1] 2)).heap.size) := hD9.out.grown.size
            have hUl := Lib.hid hU.lst
            clear hU hD hZ
            go_wp2_with (first | (go_at_call 110; refine (spec_l01Has _ l x1 _ hUl.out).mono ?_; rintro e9 w9 ⟨rfl, rfl⟩; rw [hhH.out]) | (at_builtin; refine wpList_append_lst rfl _ _ 38 rfl intCell 1 intCell_one (by omega) w.heap.size 2 _ 8 Try.underlying38 info_i64 rfl _ _ rfl hU9.out _ _ _ _ [x1] rfl (lst_new1 _ _ intCell_len _ _ _ _ rfl _ (by simp)) hlenA (by omega) hsz.out ?_; intro v' w9 hO1 hG1 hD1))
            go_roundw
            case rel => exact ⟨l ++ [x1], kk - 1, rfl, by omega, by omega, by simp; omega, hO1, hD9.out.appN hU9.out hG1⟩
            case measure => simp [intOf]; omega
          · have hhH := Lib.hid hh
            clear hh
            go_wp2_with (go_at_call 110; refine (spec_l01Has _ l x1 _ hU.lst).mono ?_; rintro e9 w9 ⟨rfl, rfl⟩; rw [hhH.out])
            go_roundw
            case rel => exact ⟨l, kk - 1, rfl, by omega, by omega, by omega, hU, hD⟩
            case measure => simp [intOf]; omega
        · go_wp2_with fail
          clear e0 e1 lbg
          refine (spec_l01Next g 30 _ hD.src (by omega)).mono ?_
          rintro e we ⟨y, rfl, hy, hN⟩
          replace hU := own_draw hU (by decide) hD.src hN
          replace hD := hD.draw hN
          clear hN hy
          by_cases hy0 : y = 0
          · subst hy0
            obtain ⟨e0, e1⟩ := hD.box.c2
            have lbg := hD.box.lt
            go_wp2_with fail
            clear e0 e1 lbg
            have hZ : Below we.heap.size we (we.alloc (.cells #[.int .i64 (-1), .int .i64 0, .int .i64 9] 2)) := (Below.refl _ _).alloc (Nat.le_refl _) _
            replace hU := hU.now hZ
            replace hD := hD.below hZ
            clear hZ
            refine (spec_l01Pick g we.heap.size [-1, 0, 9] _ hD.src (Blk.newAt _ _ rfl) (by simp) (by simp)).mono ?_
            rintro e wk ⟨pk, hpk, rfl, hN⟩
            replace hU := own_draw hU (by decide) hD.src hN
            replace hD := hD.draw hN
            clear hN hpk
            have hZ : Below wk.heap.size wk (wk.alloc (.cells #[.int .i64 pk] 2)) := (Below.refl _ _).alloc (Nat.le_refl _) _
            have hU9 := Lib.hid (hU.now hZ)
            have hD9 := Lib.hid (hD.below hZ)
            have hlenA : l.length + [pk].length ≤ 1099511627776 := by simp; omega
            have hsz : Hid (w.heap.size ≤ (wk.alloc (.cells #[.int .i64 pk] 2)).heap.size) := hD9.out.grown.size
            have hLL : Hid ((l ++ [pk]).length = l.length + 1) := by show _ = _; simp
            clear hU hD hZ
            go_wp2_with (at_builtin; refine wpList_append_lst rfl _ _ 38 rfl intCell 1 intCell_one (by omega) w.heap.size 2 _ 8 Try.underlying38 info_i64 rfl _ _ rfl hU9.out _ _ _ _ [pk] rfl (lst_new1 _ _ intCell_len _ _ _ _ rfl _ (by simp)) hlenA (by omega) hsz.out ?_; intro v' w9 hO1 hG1 hD1; obtain ⟨V1, cv1, rfl⟩ := own_shape_n hO1 hLL.out; have hD8 := hD9.out.appN hU9.out hG1; have l0 := hD8.box.lt; obtain ⟨e0, e1⟩ := hD8.box.c2; have f0 := hD8.res.frozen 0; have f1 := hD8.res.frozen 1; have lb2 := hD8.res.lt; obtain ⟨r0, r1⟩ := hD8.res.c2)
            have f0 := hD8.res.frozen 0
            have f1 := hD8.res.frozen 1
            have lb2 := hD8.res.lt
            obtain ⟨r0, r1⟩ := hD8.res.c2
            have hF := Lib.hid hD8.fin
            have hq2 : Hid (RmRet w.heap.size _ _) := Lib.hid ⟨l ++ [pk], by first | omega | (simp; omega), own_far (own_far hO1 (p := ⟨b2, 0, none⟩) (hO1.ne_blk hD8.res (by decide)) (.int .i64 ge)) (p := ⟨b2, 1, none⟩) (hO1.ne_blk hD8.res (by decide)) (.slice A 9 c)⟩
            refine bodyPost_ret (v := .tuple #[.agg #[.int .i64 ge, .slice A 9 c], .slice V1 (l.length + 1) cv1]) (by simp [results, Try.results67, go_sem, r0, r1]) rfl ⟨ge, gq, _, _, rfl, by omega, by omega, hgl, hF.out.1, hq2.out, hF.out.2⟩
          · have q0 : (y == 0) = false := by simpa using hy0
            by_cases hy1 : y = 1
            · subst hy1
              clear hy0 q0
              have l0 := hD.box.lt
              obtain ⟨e0, e1⟩ := hD.box.c2
              have f0 := hD.res.frozen 0
              have f1 := hD.res.frozen 1
              have lb2 := hD.res.lt
              obtain ⟨r0, r1⟩ := hD.res.c2
              have hF := Lib.hid hD.fin
              have hq2 : Hid (RmRet w.heap.size ((we.setCell ⟨b2, 0, none⟩ (.int .i64 ge)).setCell ⟨b2, 1, none⟩ (.slice A 9 c)) (.slice none 0 0)) := Lib.hid ⟨[], by simp, Own.nil⟩
              go_wp2
              refine bodyPost_ret (v := .tuple #[.agg #[.int .i64 ge, .slice A 9 c], .slice none 0 0]) (by simp [results, Try.results67, go_sem, r0, r1]) rfl ⟨ge, gq, _, _, rfl, by omega, by omega, hgl, hF.out.1, hq2.out, hF.out.2⟩
            · have q1 : (y == 1) = false := by simpa using hy1
              clear hy0 hy1
              have l0 := hD.box.lt
              obtain ⟨e0, e1⟩ := hD.box.c2
              have f0 := hD.res.frozen 0
              have f1 := hD.res.frozen 1
              have lb2 := hD.res.lt
              obtain ⟨r0, r1⟩ := hD.res.c2
              have hF := Lib.hid hD.fin
              have hq2 : Hid (RmRet w.heap.size _ _) := Lib.hid ⟨l, by first | omega | (simp; omega), own_far (own_far hU (p := ⟨b2, 0, none⟩) (hU.ne_blk hD.res (by decide)) (.int .i64 ge)) (p := ⟨b2, 1, none⟩) (hU.ne_blk hD.res (by decide)) (.slice A 9 c)⟩
              go_wp2
              refine bodyPost_ret (v := .tuple #[.agg #[.int .i64 ge, .slice A 9 c], .slice Y l.length cy]) (by simp [results, Try.results67, go_sem, r0, r1]) rfl ⟨ge, gq, _, _, rfl, by omega, by omega, hgl, hF.out.1, hq2.out, hF.out.2⟩
    · clear e0 e1 lbg
      have hnI : (0 : Int) < (gp.length : Int) := by omega
      have hnN : 0 < gp.length := by omega
      have hgl := hlen
      obtain ⟨p0, p1⟩ := hD.box.c2
      have lpb := hD.box.lt
      have hs9 := hD.grown.size
      have hZ : Below wa.heap.size wa (wa.alloc (.cells #[] 2)) := (Below.refl _ _).alloc (Nat.le_refl _) _
      have hU : Own intCell 1 2 (wa.alloc (.cells #[] 2)) w.heap.size (.slice (some ⟨wa.heap.size, 0, none⟩) 0 0) ([] : List Int) := own_new0 intCell 1 wa 2 w.heap.size hs9
      replace hD := hD.below hZ
      clear hZ hs9
      obtain ⟨e0, e1⟩ := hD.box.c2
      have lbg := hD.box.lt
      go_wp2_with fail
      clear e0 e1 lbg p0 p1 lpb
      refine (spec_l01Next g most _ hD.src (by omega)).mono ?_
      rintro e wt ⟨k4, rfl, hk4, hN⟩
      replace hU := own_draw hU (by decide) hD.src hN
      replace hD := hD.draw hN
      have hk40 := hk4.1
      have hk41 : k4 ≤ 2 := by obtain ⟨n1, n2, n3⟩ := hk4; omega
      have wk4 : IntKind.i64.wrap (1 + k4) = 1 + k4 := IntWalk.i64_in _ (by omega)
      clear hk4 hN
      go_wp2
      go_loopw [7, 8, 9] (fun uv kv _ wr => ∃ (l : List Int) (kk : Int), kv = .int .i64 kk ∧ 0 ≤ kk ∧ kk ≤ 3 ∧ (l.length : Int) ≤ 3 - kk ∧ Own intCell 1 2 wr w.heap.size uv l ∧ Dr w g b2 bg wr ge (.slice A gp.length c) gp) (fun _ kv _ _ => (intOf kv).toNat)
      case atStart => exact ⟨[], 1 + k4, rfl, by omega, by omega, by simp; omega, hU, hD⟩
      case round =>
        clear hU hD hk40 hk41 wk4
        obtain ⟨l, kk, rfl, hk0, hk1, hll, hU, hD⟩ := hrel
        obtain ⟨Y, cy, rfl⟩ := hU.shape
        obtain ⟨e0, e1⟩ := hD.box.c2
        have lbg := hD.box.lt
        by_cases hlt : 0 < kk
        · have wk : IntKind.i64.wrap (kk - 1) = kk - 1 := IntWalk.i64_in _ (by omega)
          go_wp2_with fail
          clear e0 e1 lbg
          refine (spec_l01Next g (gp.length : Int) _ hD.src (by omega)).mono ?_
          rintro e wu ⟨x1, rfl, hx1, hN⟩
          replace hU := own_draw hU (by decide) hD.src hN
          replace hD := hD.draw hN
          clear hx1 hN
          cases hh : hasI l x1
          · have hhH := Lib.hid hh
            clear hh
            have hZ : Below wu.heap.size wu (wu.alloc (.cells #[.int .i64 x1] 2)) := (Below.refl _ _).alloc (Nat.le_refl _) _
            have hU9 := Lib.hid (hU.now hZ)
            have hD9 := Lib.hid (hD.below hZ)
            have hlenA : l.length + [x1].length ≤ 1099511627776 := by simp; omega
            have hsz : Hid (w.heap.size ≤ (wu.alloc (.cells #[.int .i64 x1] 2)).heap.size) := hD9.out.grown.size
            have hUl := Lib.hid hU.lst
            clear hU hD hZ
            go_wp2_with (first | (go_at_call 110; refine (spec_l01Has _ l x1 _ hUl.out).mono ?_; rintro e9 w9 ⟨rfl, rfl⟩; rw [hhH.out]) | (at_builtin; refine wpList_append_lst rfl _ _ 38 rfl intCell 1 intCell_one (by omega) w.heap.size 2 _ 8 Try.underlying38 info_i64 rfl _ _ rfl hU9.out _ _ _ _ [x1] rfl (lst_new1 _ _ intCell_len _ _ _ _ rfl _ (by simp)) hlenA (by omega) hsz.out ?_; intro v' w9 hO1 hG1 hD1))
            go_roundw
            case rel => exact ⟨l ++ [x1], kk - 1, rfl, by omega, by omega, by simp; omega, hO1, hD9.out.appN hU9.out hG1⟩
            case measure => simp [intOf]; omega
          · have hhH := Lib.hid hh
            clear hh
            go_wp2_with (go_at_call 110; refine (spec_l01Has _ l x1 _ hU.lst).mono ?_; rintro e9 w9 ⟨rfl, rfl⟩; rw [hhH.out])
            go_roundw
            case rel => exact ⟨l, kk - 1, rfl, by omega, by omega, by omega, hU, hD⟩
            case measure => simp [intOf]; omega
        · go_wp2_with fail
          clear e0 e1 lbg
          refine (spec_l01Next g 30 _ hD.src (by omega)).mono ?_
          rintro e we ⟨y, rfl, hy, hN⟩
          replace hU := own_draw hU (by decide) hD.src hN
          replace hD := hD.draw hN
          clear hN hy
          by_cases hy0 : y = 0
          · subst hy0
            obtain ⟨e0, e1⟩ := hD.box.c2
            have lbg := hD.box.lt
            go_wp2_with fail
            clear e0 e1 lbg
            have hZ : Below we.heap.size we (we.alloc (.cells #[.int .i64 (-1), .int .i64 0, .int .i64 (gp.length : Int)] 2)) := (Below.refl _ _).alloc (Nat.le_refl _) _
            replace hU := hU.now hZ
            replace hD := hD.below hZ
            clear hZ
            refine (spec_l01Pick g we.heap.size [-1, 0, (gp.length : Int)] _ hD.src (Blk.newAt _ _ rfl) (by simp) (by simp)).mono ?_
            rintro e wk ⟨pk, hpk, rfl, hN⟩
            replace hU := own_draw hU (by decide) hD.src hN
            replace hD := hD.draw hN
            clear hN hpk
            have hZ : Below wk.heap.size wk (wk.alloc (.cells #[.int .i64 pk] 2)) := (Below.refl _ _).alloc (Nat.le_refl _) _
            have hU9 := Lib.hid (hU.now hZ)
            have hD9 := Lib.hid (hD.below hZ)
            have hlenA : l.length + [pk].length ≤ 1099511627776 := by simp; omega
            have hsz : Hid (w.heap.size ≤ (wk.alloc (.cells #[.int .i64 pk] 2)).heap.size) := hD9.out.grown.size
            have hLL : Hid ((l ++ [pk]).length = l.length + 1) := by show _ = _; simp
            clear hU hD hZ
            go_wp2_with (at_builtin; refine wpList_append_lst rfl _ _ 38 rfl intCell 1 intCell_one (by omega) w.heap.size 2 _ 8 Try.underlying38 info_i64 rfl _ _ rfl hU9.out _ _ _ _ [pk] rfl (lst_new1 _ _ intCell_len _ _ _ _ rfl _ (by simp)) hlenA (by omega) hsz.out ?_; intro v' w9 hO1 hG1 hD1; obtain ⟨V1, cv1, rfl⟩ := own_shape_n hO1 hLL.out; have hD8 := hD9.out.appN hU9.out hG1; have l0 := hD8.box.lt; obtain ⟨e0, e1⟩ := hD8.box.c2; have f0 := hD8.res.frozen 0; have f1 := hD8.res.frozen 1; have lb2 := hD8.res.lt; obtain ⟨r0, r1⟩ := hD8.res.c2)
            have f0 := hD8.res.frozen 0
            have f1 := hD8.res.frozen 1
            have lb2 := hD8.res.lt
            obtain ⟨r0, r1⟩ := hD8.res.c2
            have hF := Lib.hid hD8.fin
            have hq2 : Hid (RmRet w.heap.size _ _) := Lib.hid ⟨l ++ [pk], by first | omega | (simp; omega), own_far (own_far hO1 (p := ⟨b2, 0, none⟩) (hO1.ne_blk hD8.res (by decide)) (.int .i64 ge)) (p := ⟨b2, 1, none⟩) (hO1.ne_blk hD8.res (by decide)) (.slice A gp.length c)⟩
            refine bodyPost_ret (v := .tuple #[.agg #[.int .i64 ge, .slice A gp.length c], .slice V1 (l.length + 1) cv1]) (by simp [results, Try.results67, go_sem, r0, r1]) rfl ⟨ge, gp, _, _, rfl, by omega, by omega, hgl, hF.out.1, hq2.out, hF.out.2⟩
          · have q0 : (y == 0) = false := by simpa using hy0
            by_cases hy1 : y = 1
            · subst hy1
              clear hy0 q0
              have l0 := hD.box.lt
              obtain ⟨e0, e1⟩ := hD.box.c2
              have f0 := hD.res.frozen 0
              have f1 := hD.res.frozen 1
              have lb2 := hD.res.lt
              obtain ⟨r0, r1⟩ := hD.res.c2
              have hF := Lib.hid hD.fin
              have hq2 : Hid (RmRet w.heap.size ((we.setCell ⟨b2, 0, none⟩ (.int .i64 ge)).setCell ⟨b2, 1, none⟩ (.slice A gp.length c)) (.slice none 0 0)) := Lib.hid ⟨[], by simp, Own.nil⟩
              go_wp2
              refine bodyPost_ret (v := .tuple #[.agg #[.int .i64 ge, .slice A gp.length c], .slice none 0 0]) (by simp [results, Try.results67, go_sem, r0, r1]) rfl ⟨ge, gp, _, _, rfl, by omega, by omega, hgl, hF.out.1, hq2.out, hF.out.2⟩
            · have q1 : (y == 1) = false := by simpa using hy1
              clear hy0 hy1
              have l0 := hD.box.lt
              obtain ⟨e0, e1⟩ := hD.box.c2
              have f0 := hD.res.frozen 0
              have f1 := hD.res.frozen 1
              have lb2 := hD.res.lt
              obtain ⟨r0, r1⟩ := hD.res.c2
              have hF := Lib.hid hD.fin
              have hq2 : Hid (RmRet w.heap.size _ _) := Lib.hid ⟨l, by first | omega | (simp; omega), own_far (own_far hU (p := ⟨b2, 0, none⟩) (hU.ne_blk hD.res (by decide)) (.int .i64 ge)) (p := ⟨b2, 1, none⟩) (hU.ne_blk hD.res (by decide)) (.slice A gp.length c)⟩
              go_wp2
              refine bodyPost_ret (v := .tuple #[.agg #[.int .i64 ge, .slice A gp.length c], .slice Y l.length cy]) (by simp [results, Try.results67, go_sem, r0, r1]) rfl ⟨ge, gp, _, _, rfl, by omega, by omega, hgl, hF.out.1, hq2.out, hF.out.2⟩
  · have hgtI : ¬ (9 : Int) < (gp.length : Int) := by omega
    clear e0 e1 lbg
    have hD := hD'
    clear hD'
    have hgl := hlen
    by_cases hnN : 0 < gp.length
    · have hnI : (0 : Int) < (gp.length : Int) := by omega
      obtain ⟨p0, p1⟩ := hD.box.c2
      have lpb := hD.box.lt
      have hs9 := hD.grown.size
      have hZ : Below W2.heap.size W2 (W2.alloc (.cells #[] 2)) := (Below.refl _ _).alloc (Nat.le_refl _) _
      have hU : Own intCell 1 2 (W2.alloc (.cells #[] 2)) w.heap.size (.slice (some ⟨W2.heap.size, 0, none⟩) 0 0) ([] : List Int) := own_new0 intCell 1 W2 2 w.heap.size hs9
      replace hD := hD.below hZ
      clear hZ hs9
      obtain ⟨e0, e1⟩ := hD.box.c2
      have lbg := hD.box.lt
      go_wp2_with fail
      clear e0 e1 lbg p0 p1 lpb
      refine (spec_l01Next g most _ hD.src (by omega)).mono ?_
      rintro e wt ⟨k4, rfl, hk4, hN⟩
      replace hU := own_draw hU (by decide) hD.src hN
      replace hD := hD.draw hN
      have hk40 := hk4.1
      have hk41 : k4 ≤ 2 := by obtain ⟨n1, n2, n3⟩ := hk4; omega
      have wk4 : IntKind.i64.wrap (1 + k4) = 1 + k4 := IntWalk.i64_in _ (by omega)
      clear hk4 hN
      go_wp2
      go_loopw [7, 8, 9] (fun uv kv _ wr => ∃ (l : List Int) (kk : Int), kv = .int .i64 kk ∧ 0 ≤ kk ∧ kk ≤ 3 ∧ (l.length : Int) ≤ 3 - kk ∧ Own intCell 1 2 wr w.heap.size uv l ∧ Dr w g b2 bg wr ge (.slice A gp.length c) gp) (fun _ kv _ _ => (intOf kv).toNat)
      case atStart => exact ⟨[], 1 + k4, rfl, by omega, by omega, by simp; omega, hU, hD⟩
      case round =>
        clear hU hD hk40 hk41 wk4
        obtain ⟨l, kk, rfl, hk0, hk1, hll, hU, hD⟩ := hrel
        obtain ⟨Y, cy, rfl⟩ := hU.shape
        obtain ⟨e0, e1⟩ := hD.box.c2
        have lbg := hD.box.lt
        by_cases hlt : 0 < kk
        · have wk : IntKind.i64.wrap (kk - 1) = kk - 1 := IntWalk.i64_in _ (by omega)
          go_wp2_with fail
          clear e0 e1 lbg
          refine (spec_l01Next g (gp.length : Int) _ hD.src (by omega)).mono ?_
          rintro e wu ⟨x1, rfl, hx1, hN⟩
          replace hU := own_draw hU (by decide) hD.src hN
          replace hD := hD.draw hN
          clear hx1 hN
          cases hh : hasI l x1
          · have hhH := Lib.hid hh
            clear hh
            have hZ : Below wu.heap.size wu (wu.alloc (.cells #[.int .i64 x1] 2)) := (Below.refl _ _).alloc (Nat.le_refl _) _
            have hU9 := Lib.hid (hU.now hZ)
            have hD9 := Lib.hid (hD.below hZ)
            have hlenA : l.length + [x1].length ≤ 1099511627776 := by simp; omega
            have hsz : Hid (w.heap.size ≤ (wu.alloc (.cells #[.int .i64 x1] 2)).heap.size) := hD9.out.grown.size
            have hUl := Lib.hid hU.lst
            clear hU hD hZ
            go_wp2_with (first | (go_at_call 110; refine (spec_l01Has _ l x1 _ hUl.out).mono ?_; rintro e9 w9 ⟨rfl, rfl⟩; rw [hhH.out]) | (at_builtin; refine wpList_append_lst rfl _ _ 38 rfl intCell 1 intCell_one (by omega) w.heap.size 2 _ 8 Try.underlying38 info_i64 rfl _ _ rfl hU9.out _ _ _ _ [x1] rfl (lst_new1 _ _ intCell_len _ _ _ _ rfl _ (by simp)) hlenA (by omega) hsz.out ?_; intro v' w9 hO1 hG1 hD1))
            go_roundw
            case rel => exact ⟨l ++ [x1], kk - 1, rfl, by omega, by omega, by simp; omega, hO1, hD9.out.appN hU9.out hG1⟩
            case measure => simp [intOf]; omega
          · have hhH := Lib.hid hh
            clear hh
            go_wp2_with (go_at_call 110; refine (spec_l01Has _ l x1 _ hU.lst).mono ?_; rintro e9 w9 ⟨rfl, rfl⟩; rw [hhH.out])
            go_roundw
            case rel => exact ⟨l, kk - 1, rfl, by omega, by omega, by omega, hU, hD⟩
            case measure => simp [intOf]; omega
        · go_wp2_with fail
          clear e0 e1 lbg
          refine (spec_l01Next g 30 _ hD.src (by omega)).mono ?_
          rintro e we ⟨y, rfl, hy, hN⟩
          replace hU := own_draw hU (by decide) hD.src hN
          replace hD := hD.draw hN
          clear hN hy
          by_cases hy0 : y = 0
          · subst hy0
            obtain ⟨e0, e1⟩ := hD.box.c2
            have lbg := hD.box.lt
            go_wp2_with fail
            clear e0 e1 lbg
            have hZ : Below we.heap.size we (we.alloc (.cells #[.int .i64 (-1), .int .i64 0, .int .i64 (gp.length : Int)] 2)) := (Below.refl _ _).alloc (Nat.le_refl _) _
            replace hU := hU.now hZ
            replace hD := hD.below hZ
            clear hZ
            refine (spec_l01Pick g we.heap.size [-1, 0, (gp.length : Int)] _ hD.src (Blk.newAt _ _ rfl) (by simp) (by simp)).mono ?_
            rintro e wk ⟨pk, hpk, rfl, hN⟩
            replace hU := own_draw hU (by decide) hD.src hN
            replace hD := hD.draw hN
            clear hN hpk
            have hZ : Below wk.heap.size wk (wk.alloc (.cells #[.int .i64 pk] 2)) := (Below.refl _ _).alloc (Nat.le_refl _) _
            have hU9 := Lib.hid (hU.now hZ)
            have hD9 := Lib.hid (hD.below hZ)
            have hlenA : l.length + [pk].length ≤ 1099511627776 := by simp; omega
            have hsz : Hid (w.heap.size ≤ (wk.alloc (.cells #[.int .i64 pk] 2)).heap.size) := hD9.out.grown.size
            have hLL : Hid ((l ++ [pk]).length = l.length + 1) := by show _ = _; simp
            clear hU hD hZ
            go_wp2_with (at_builtin; refine wpList_append_lst rfl _ _ 38 rfl intCell 1 intCell_one (by omega) w.heap.size 2 _ 8 Try.underlying38 info_i64 rfl _ _ rfl hU9.out _ _ _ _ [pk] rfl (lst_new1 _ _ intCell_len _ _ _ _ rfl _ (by simp)) hlenA (by omega) hsz.out ?_; intro v' w9 hO1 hG1 hD1; obtain ⟨V1, cv1, rfl⟩ := own_shape_n hO1 hLL.out; have hD8 := hD9.out.appN hU9.out hG1; have l0 := hD8.box.lt; obtain ⟨e0, e1⟩ := hD8.box.c2; have f0 := hD8.res.frozen 0; have f1 := hD8.res.frozen 1; have lb2 := hD8.res.lt; obtain ⟨r0, r1⟩ := hD8.res.c2)
            have f0 := hD8.res.frozen 0
            have f1 := hD8.res.frozen 1
            have lb2 := hD8.res.lt
            obtain ⟨r0, r1⟩ := hD8.res.c2
            have hF := Lib.hid hD8.fin
            have hq2 : Hid (RmRet w.heap.size _ _) := Lib.hid ⟨l ++ [pk], by first | omega | (simp; omega), own_far (own_far hO1 (p := ⟨b2, 0, none⟩) (hO1.ne_blk hD8.res (by decide)) (.int .i64 ge)) (p := ⟨b2, 1, none⟩) (hO1.ne_blk hD8.res (by decide)) (.slice A gp.length c)⟩
            refine bodyPost_ret (v := .tuple #[.agg #[.int .i64 ge, .slice A gp.length c], .slice V1 (l.length + 1) cv1]) (by simp [results, Try.results67, go_sem, r0, r1]) rfl ⟨ge, gp, _, _, rfl, by omega, by omega, hgl, hF.out.1, hq2.out, hF.out.2⟩
          · have q0 : (y == 0) = false := by simpa using hy0
            by_cases hy1 : y = 1
            · subst hy1
              clear hy0 q0
              have l0 := hD.box.lt
              obtain ⟨e0, e1⟩ := hD.box.c2
              have f0 := hD.res.frozen 0
              have f1 := hD.res.frozen 1
              have lb2 := hD.res.lt
              obtain ⟨r0, r1⟩ := hD.res.c2
              have hF := Lib.hid hD.fin
              have hq2 : Hid (RmRet w.heap.size ((we.setCell ⟨b2, 0, none⟩ (.int .i64 ge)).setCell ⟨b2, 1, none⟩ (.slice A gp.length c)) (.slice none 0 0)) := Lib.hid ⟨[], by simp, Own.nil⟩
              go_wp2
              refine bodyPost_ret (v := .tuple #[.agg #[.int .i64 ge, .slice A gp.length c], .slice none 0 0]) (by simp [results, Try.results67, go_sem, r0, r1]) rfl ⟨ge, gp, _, _, rfl, by omega, by omega, hgl, hF.out.1, hq2.out, hF.out.2⟩
            · have q1 : (y == 1) = false := by simpa using hy1
              clear hy0 hy1
              have l0 := hD.box.lt
              obtain ⟨e0, e1⟩ := hD.box.c2
              have f0 := hD.res.frozen 0
              have f1 := hD.res.frozen 1
              have lb2 := hD.res.lt
              obtain ⟨r0, r1⟩ := hD.res.c2
              have hF := Lib.hid hD.fin
              have hq2 : Hid (RmRet w.heap.size _ _) := Lib.hid ⟨l, by first | omega | (simp; omega), own_far (own_far hU (p := ⟨b2, 0, none⟩) (hU.ne_blk hD.res (by decide)) (.int .i64 ge)) (p := ⟨b2, 1, none⟩) (hU.ne_blk hD.res (by decide)) (.slice A gp.length c)⟩
              go_wp2
              refine bodyPost_ret (v := .tuple #[.agg #[.int .i64 ge, .slice A gp.length c], .slice Y l.length cy]) (by simp [results, Try.results67, go_sem, r0, r1]) rfl ⟨ge, gp, _, _, rfl, by omega, by omega, hgl, hF.out.1, hq2.out, hF.out.2⟩
    · have hnI : ¬ (0 : Int) < (gp.length : Int) := by omega
      obtain ⟨p0, p1⟩ := hD.box.c2
      have lpb := hD.box.lt
      have hs9 := hD.grown.size
      have hZ : Below W2.heap.size W2 (W2.alloc (.cells #[] 2)) := (Below.refl _ _).alloc (Nat.le_refl _) _
      have hU : Own intCell 1 2 (W2.alloc (.cells #[] 2)) w.heap.size (.slice (some ⟨W2.heap.size, 0, none⟩) 0 0) ([] : List Int) := own_new0 intCell 1 W2 2 w.heap.size hs9
      replace hD := hD.below hZ
      clear hZ hs9
      obtain ⟨e0, e1⟩ := hD.box.c2
      have lbg := hD.box.lt
      go_wp2_with fail
      clear e0 e1 lbg p0 p1 lpb
      refine (spec_l01Next g most _ hD.src (by omega)).mono ?_
      rintro e wt ⟨k4, rfl, hk4, hN⟩
      replace hU := own_draw hU (by decide) hD.src hN
      replace hD := hD.draw hN
      have hk40 := hk4.1
      have hk41 : k4 ≤ 2 := by obtain ⟨n1, n2, n3⟩ := hk4; omega
      have wk4 : IntKind.i64.wrap (1 + k4) = 1 + k4 := IntWalk.i64_in _ (by omega)
      clear hk4 hN
      go_wp2
      go_loopw [7, 8, 9] (fun uv kv _ wr => ∃ (l : List Int) (kk : Int), kv = .int .i64 kk ∧ 0 ≤ kk ∧ kk ≤ 3 ∧ (l.length : Int) ≤ 3 - kk ∧ Own intCell 1 2 wr w.heap.size uv l ∧ Dr w g b2 bg wr ge (.slice A gp.length c) gp) (fun _ kv _ _ => (intOf kv).toNat)
      case atStart => exact ⟨[], 1 + k4, rfl, by omega, by omega, by simp; omega, hU, hD⟩
      case round =>
        clear hU hD hk40 hk41 wk4
        obtain ⟨l, kk, rfl, hk0, hk1, hll, hU, hD⟩ := hrel
        obtain ⟨Y, cy, rfl⟩ := hU.shape
        obtain ⟨e0, e1⟩ := hD.box.c2
        have lbg := hD.box.lt
        by_cases hlt : 0 < kk
        · go_wp2_with fail
          clear e0 e1 lbg
          refine (spec_l01Next g 30 _ hD.src (by omega)).mono ?_
          rintro e we ⟨y, rfl, hy, hN⟩
          replace hU := own_draw hU (by decide) hD.src hN
          replace hD := hD.draw hN
          clear hN hy
          by_cases hy0 : y = 0
          · subst hy0
            obtain ⟨e0, e1⟩ := hD.box.c2
            have lbg := hD.box.lt
            go_wp2_with fail
            clear e0 e1 lbg
            have hZ : Below we.heap.size we (we.alloc (.cells #[.int .i64 (-1), .int .i64 0, .int .i64 (gp.length : Int)] 2)) := (Below.refl _ _).alloc (Nat.le_refl _) _
            replace hU := hU.now hZ
            replace hD := hD.below hZ
            clear hZ
            refine (spec_l01Pick g we.heap.size [-1, 0, (gp.length : Int)] _ hD.src (Blk.newAt _ _ rfl) (by simp) (by simp)).mono ?_
            rintro e wk ⟨pk, hpk, rfl, hN⟩
            replace hU := own_draw hU (by decide) hD.src hN
            replace hD := hD.draw hN
            clear hN hpk
            have hZ : Below wk.heap.size wk (wk.alloc (.cells #[.int .i64 pk] 2)) := (Below.refl _ _).alloc (Nat.le_refl _) _
            have hU9 := Lib.hid (hU.now hZ)
            have hD9 := Lib.hid (hD.below hZ)
            have hlenA : l.length + [pk].length ≤ 1099511627776 := by simp; omega
            have hsz : Hid (w.heap.size ≤ (wk.alloc (.cells #[.int .i64 pk] 2)).heap.size) := hD9.out.grown.size
            have hLL : Hid ((l ++ [pk]).length = l.length + 1) := by show _ = _; simp
            clear hU hD hZ
            go_wp2_with (at_builtin; refine wpList_append_lst rfl _ _ 38 rfl intCell 1 intCell_one (by omega) w.heap.size 2 _ 8 Try.underlying38 info_i64 rfl _ _ rfl hU9.out _ _ _ _ [pk] rfl (lst_new1 _ _ intCell_len _ _ _ _ rfl _ (by simp)) hlenA (by omega) hsz.out ?_; intro v' w9 hO1 hG1 hD1; obtain ⟨V1, cv1, rfl⟩ := own_shape_n hO1 hLL.out; have hD8 := hD9.out.appN hU9.out hG1; have l0 := hD8.box.lt; obtain ⟨e0, e1⟩ := hD8.box.c2; have f0 := hD8.res.frozen 0; have f1 := hD8.res.frozen 1; have lb2 := hD8.res.lt; obtain ⟨r0, r1⟩ := hD8.res.c2)
            have f0 := hD8.res.frozen 0
            have f1 := hD8.res.frozen 1
            have lb2 := hD8.res.lt
            obtain ⟨r0, r1⟩ := hD8.res.c2
            have hF := Lib.hid hD8.fin
            have hq2 : Hid (RmRet w.heap.size _ _) := Lib.hid ⟨l ++ [pk], by first | omega | (simp; omega), own_far (own_far hO1 (p := ⟨b2, 0, none⟩) (hO1.ne_blk hD8.res (by decide)) (.int .i64 ge)) (p := ⟨b2, 1, none⟩) (hO1.ne_blk hD8.res (by decide)) (.slice A gp.length c)⟩
            refine bodyPost_ret (v := .tuple #[.agg #[.int .i64 ge, .slice A gp.length c], .slice V1 (l.length + 1) cv1]) (by simp [results, Try.results67, go_sem, r0, r1]) rfl ⟨ge, gp, _, _, rfl, by omega, by omega, hgl, hF.out.1, hq2.out, hF.out.2⟩
          · have q0 : (y == 0) = false := by simpa using hy0
            by_cases hy1 : y = 1
            · subst hy1
              clear hy0 q0
              have l0 := hD.box.lt
              obtain ⟨e0, e1⟩ := hD.box.c2
              have f0 := hD.res.frozen 0
              have f1 := hD.res.frozen 1
              have lb2 := hD.res.lt
              obtain ⟨r0, r1⟩ := hD.res.c2
              have hF := Lib.hid hD.fin
              have hq2 : Hid (RmRet w.heap.size ((we.setCell ⟨b2, 0, none⟩ (.int .i64 ge)).setCell ⟨b2, 1, none⟩ (.slice A gp.length c)) (.slice none 0 0)) := Lib.hid ⟨[], by simp, Own.nil⟩
              go_wp2
              refine bodyPost_ret (v := .tuple #[.agg #[.int .i64 ge, .slice A gp.length c], .slice none 0 0]) (by simp [results, Try.results67, go_sem, r0, r1]) rfl ⟨ge, gp, _, _, rfl, by omega, by omega, hgl, hF.out.1, hq2.out, hF.out.2⟩
            · have q1 : (y == 1) = false := by simpa using hy1
              clear hy0 hy1
              have l0 := hD.box.lt
              obtain ⟨e0, e1⟩ := hD.box.c2
              have f0 := hD.res.frozen 0
              have f1 := hD.res.frozen 1
              have lb2 := hD.res.lt
              obtain ⟨r0, r1⟩ := hD.res.c2
              have hF := Lib.hid hD.fin
              have hq2 : Hid (RmRet w.heap.size _ _) := Lib.hid ⟨l, by first | omega | (simp; omega), own_far (own_far hU (p := ⟨b2, 0, none⟩) (hU.ne_blk hD.res (by decide)) (.int .i64 ge)) (p := ⟨b2, 1, none⟩) (hU.ne_blk hD.res (by decide)) (.slice A gp.length c)⟩
              go_wp2
              refine bodyPost_ret (v := .tuple #[.agg #[.int .i64 ge, .slice A gp.length c], .slice Y l.length cy]) (by simp [results, Try.results67, go_sem, r0, r1]) rfl ⟨ge, gp, _, _, rfl, by omega, by omega, hgl, hF.out.1, hq2.out, hF.out.2⟩
        · go_wp2_with fail
          clear e0 e1 lbg
          refine (spec_l01Next g 30 _ hD.src (by omega)).mono ?_
          rintro e we ⟨y, rfl, hy, hN⟩
          replace hU := own_draw hU (by decide) hD.src hN
          replace hD := hD.draw hN
          clear hN hy
          by_cases hy0 : y = 0
          · subst hy0
            obtain ⟨e0, e1⟩ := hD.box.c2
            have lbg := hD.box.lt
            go_wp2_with fail
            clear e0 e1 lbg
            have hZ : Below we.heap.size we (we.alloc (.cells #[.int .i64 (-1), .int .i64 0, .int .i64 (gp.length : Int)] 2)) := (Below.refl _ _).alloc (Nat.le_refl _) _
            replace hU := hU.now hZ
            replace hD := hD.below hZ
            clear hZ
            refine (spec_l01Pick g we.heap.size [-1, 0, (gp.length : Int)] _ hD.src (Blk.newAt _ _ rfl) (by simp) (by simp)).mono ?_
            rintro e wk ⟨pk, hpk, rfl, hN⟩
            replace hU := own_draw hU (by decide) hD.src hN
            replace hD := hD.draw hN
            clear hN hpk
            have hZ : Below wk.heap.size wk (wk.alloc (.cells #[.int .i64 pk] 2)) := (Below.refl _ _).alloc (Nat.le_refl _) _
            have hU9 := Lib.hid (hU.now hZ)
            have hD9 := Lib.hid (hD.below hZ)
            have hlenA : l.length + [pk].length ≤ 1099511627776 := by simp; omega
            have hsz : Hid (w.heap.size ≤ (wk.alloc (.cells #[.int .i64 pk] 2)).heap.size) := hD9.out.grown.size
            have hLL : Hid ((l ++ [pk]).length = l.length + 1) := by show _ = _; simp
            clear hU hD hZ
            go_wp2_with (at_builtin; refine wpList_append_lst rfl _ _ 38 rfl intCell 1 intCell_one (by omega) w.heap.size 2 _ 8 Try.underlying38 info_i64 rfl _ _ rfl hU9.out _ _ _ _ [pk] rfl (lst_new1 _ _ intCell_len _ _ _ _ rfl _ (by simp)) hlenA (by omega) hsz.out ?_; intro v' w9 hO1 hG1 hD1; obtain ⟨V1, cv1, rfl⟩ := own_shape_n hO1 hLL.out; have hD8 := hD9.out.appN hU9.out hG1; have l0 := hD8.box.lt; obtain ⟨e0, e1⟩ := hD8.box.c2; have f0 := hD8.res.frozen 0; have f1 := hD8.res.frozen 1; have lb2 := hD8.res.lt; obtain ⟨r0, r1⟩ := hD8.res.c2)
            have f0 := hD8.res.frozen 0
            have f1 := hD8.res.frozen 1
            have lb2 := hD8.res.lt
            obtain ⟨r0, r1⟩ := hD8.res.c2
            have hF := Lib.hid hD8.fin
            have hq2 : Hid (RmRet w.heap.size _ _) := Lib.hid ⟨l ++ [pk], by first | omega | (simp; omega), own_far (own_far hO1 (p := ⟨b2, 0, none⟩) (hO1.ne_blk hD8.res (by decide)) (.int .i64 ge)) (p := ⟨b2, 1, none⟩) (hO1.ne_blk hD8.res (by decide)) (.slice A gp.length c)⟩
            refine bodyPost_ret (v := .tuple #[.agg #[.int .i64 ge, .slice A gp.length c], .slice V1 (l.length + 1) cv1]) (by simp [results, Try.results67, go_sem, r0, r1]) rfl ⟨ge, gp, _, _, rfl, by omega, by omega, hgl, hF.out.1, hq2.out, hF.out.2⟩
          · have q0 : (y == 0) = false := by simpa using hy0
            by_cases hy1 : y = 1
            · subst hy1
              clear hy0 q0
              have l0 := hD.box.lt
              obtain ⟨e0, e1⟩ := hD.box.c2
              have f0 := hD.res.frozen 0
              have f1 := hD.res.frozen 1
              have lb2 := hD.res.lt
              obtain ⟨r0, r1⟩ := hD.res.c2
              have hF := Lib.hid hD.fin
              have hq2 : Hid (RmRet w.heap.size ((we.setCell ⟨b2, 0, none⟩ (.int .i64 ge)).setCell ⟨b2, 1, none⟩ (.slice A gp.length c)) (.slice none 0 0)) := Lib.hid ⟨[], by simp, Own.nil⟩
              go_wp2
              refine bodyPost_ret (v := .tuple #[.agg #[.int .i64 ge, .slice A gp.length c], .slice none 0 0]) (by simp [results, Try.results67, go_sem, r0, r1]) rfl ⟨ge, gp, _, _, rfl, by omega, by omega, hgl, hF.out.1, hq2.out, hF.out.2⟩
            · have q1 : (y == 1) = false := by simpa using hy1
              clear hy0 hy1
              have l0 := hD.box.lt
              obtain ⟨e0, e1⟩ := hD.box.c2
              have f0 := hD.res.frozen 0
              have f1 := hD.res.frozen 1
              have lb2 := hD.res.lt
              obtain ⟨r0, r1⟩ := hD.res.c2
              have hF := Lib.hid hD.fin
              have hq2 : Hid (RmRet w.heap.size _ _) := Lib.hid ⟨l, by first | omega | (simp; omega), own_far (own_far hU (p := ⟨b2, 0, none⟩) (hU.ne_blk hD.res (by decide)) (.int .i64 ge)) (p := ⟨b2, 1, none⟩) (hU.ne_blk hD.res (by decide)) (.slice A gp.length c)⟩
              go_wp2
              refine bodyPost_ret (v := .tuple #[.agg #[.int .i64 ge, .slice A gp.length c], .slice Y l.length cy]) (by simp [results, Try.results67, go_sem, r0, r1]) rfl ⟨ge, gp, _, _, rfl, by omega, by omega, hgl, hF.out.1, hq2.out, hF.out.2⟩
def RmRet2 (B : Nat) (w' : World) (u : Value) : Prop := ∃ l : List Int, l.length ≤ 20 ∧ Own intCell 1 2 w' B u l
set_option maxHeartbeats 16000000 in
set_option maxRecDepth 100000 in
theorem spec_l16DrawRooms (g : Nat) (w : World) (h : Src w g) :
    Calls Try.prog 73 #[.pointer (some ⟨g, 0, none⟩)] w fun e w' => ∃ ge gp v u1 u2, e = .returned (.tuple #[.agg #[.int .i64 ge, v], u1, u2]) ∧ 0 ≤ ge ∧ ge ≤ 11 ∧ gp.length ≤ 40 ∧ Own Place.cells 4 101 w' w.heap.size v gp ∧ RmRet w.heap.size w' u1 ∧ RmRet2 w.heap.size w' u2 ∧ Drawn w g w' := by
  have hgw := h.lt
  go_enter Try.func73, Try.ntmps73
  go_wp2_with fail
  have hA : Below w.heap.size w (w.alloc (.cells #[.int .i64 0, .slice none 0 0] 32)) := (Below.refl _ _).alloc (Nat.le_refl _) _
  refine (spec_l16Draw g 3 _ (h.now hA) (by omega)).mono ?_
  rintro e w1 ⟨ge, gp, v, u, rfl, hg0, hg1, hlen, hO, ⟨l, hll, hU⟩, hN⟩
  obtain ⟨A, c, rfl⟩ := hO.shape
  obtain ⟨UA, uc, rfl⟩ := hU.shape
  have hres := (Blk.new w 32 #[.int .i64 0, .slice none 0 0]).grown hN.2 (fun e => by injection e with e; omega)
  have hG1 := grown_trans (grown_of_below (r := some g) hA) hN.2
  have hs1 := hG1.size
  have hlt1 := hres.lt
  have hA2 : Below w1.heap.size w1 (w1.alloc (.cells #[.int .i64 ge, .slice A gp.length c] 32)) := (Below.refl _ _).alloc (Nat.le_refl _) _
  have hD : Dr w g w.heap.size w1.heap.size (w1.alloc (.cells #[.int .i64 ge, .slice A gp.length c] 32)) ge (.slice A gp.length c) gp :=
    ⟨hN.1.now hA2, grown_trans hG1 (grown_of_below hA2), hres.now hA2, Blk.newAt _ _ rfl, (hO.rebase hA.size).now hA2, Nat.le_refl _, hs1, by omega, hgw⟩
  have hU2 := (hU.rebase hA.size).now hA2
  go_upto_region 2 with fail
  obtain ⟨bg, hbg⟩ : ∃ bg, w1.heap.size = bg := ⟨_, rfl⟩
  obtain ⟨b2, hb2⟩ : ∃ b2, w.heap.size = b2 := ⟨_, rfl⟩
  have hD' : Dr w g b2 bg (w1.alloc (.cells #[.int .i64 ge, .slice A gp.length c] 32)) ge (.slice A gp.length c) gp := by rw [← hb2, ← hbg]; exact hD
  rw [hbg]
  rw [show (Value.pointer (some ⟨w.heap.size, 0, none⟩)) = .pointer (some ⟨b2, 0, none⟩) by rw [hb2]]
  clear hN hO hres hG1 hs1 hlt1 hD hA hA2 hbg hb2 hU
  generalize w1.alloc (.cells #[.int .i64 ge, .slice A gp.length c] 32) = W2 at *
  have hs9 := hD'.grown.size
  have hZ : Below W2.heap.size W2 (W2.alloc (.cells #[] 2)) := (Below.refl _ _).alloc (Nat.le_refl _) _
  have hR : Own intCell 1 2 (W2.alloc (.cells #[] 2)) W2.heap.size (.slice (some ⟨W2.heap.size, 0, none⟩) 0 0) ([] : List Int) := own_new0 intCell 1 W2 2 W2.heap.size (Nat.le_refl _)
  have hult : Hid (∀ q, (Value.slice UA l.length uc).ownBlock = some q → q < W2.heap.size) := fun q e => (hU2.lt q e).2
  have hD := hD'.below hZ
  have hU := hU2.now hZ
  clear hZ hD' hU2
  have hs9H : Hid (w.heap.size ≤ W2.heap.size) := hs9
  clear hs9
  go_wp2
  obtain ⟨B0, hB0⟩ : ∃ B0, W2.heap.size = B0 := ⟨_, rfl⟩
  rw [hB0] at hR hult hs9H ⊢
  go_loopw [7, 8, 9] (fun rv kv _ wr => ∃ (R : List Int) (k : Nat), kv = .int .i64 k ∧ k ≤ l.length ∧ Hid (R.length = k) ∧ Hid (B0 ≤ wr.heap.size) ∧ Own intCell 1 2 wr B0 rv R ∧ Own intCell 1 2 wr w.heap.size (.slice UA l.length uc) l ∧ Dr w g b2 bg wr ge (.slice A gp.length c) gp) (fun _ kv _ _ => l.length - (intOf kv).toNat)
  case atStart => exact ⟨[], 0, rfl, Nat.zero_le _, rfl, (by show _ ≤ _; simp; omega), hR, hU, hD⟩
  case round =>
    clear hR hU hD hB0
    obtain ⟨R, k, rfl, hk, hRl, hbz, hR, hU, hD⟩ := hrel
    obtain ⟨RA, rc, rfl⟩ := hR.shape
    by_cases hlt : k < l.length
    · obtain ⟨ub, cu, hu, _, hubl, _, hcu⟩ := hU.at_ intCell_len k hlt
      obtain rfl : UA = some ⟨ub, 0, none⟩ := by injection hu
      have z0 := hcu 0 _ (by omega) rfl
      simp only [Nat.mul_one, Nat.add_zero] at z0
      obtain ⟨x, hx⟩ : ∃ x, l[k] = x := ⟨_, rfl⟩
      rw [hx] at z0
      clear hu hcu hx
      obtain ⟨e0, e1⟩ := hD.box.c2
      have lbg := hD.box.lt
      have hDw : Below wr.heap.size wr wr.drew := Below.drew (Below.refl _ wr)
      replace z0 := cell_keep z0 hDw
      replace e0 := cell_keep e0 hDw
      replace e1 := cell_keep e1 hDw
      have hR1 := hR.now hDw
      have hU1 := hU.now hDw
      have hD1 := hD.below hDw
      have lbg1 := hD1.box.lt
      have i1 : (0 : Int) ≤ (k : Int) := by omega
      have i2 : (k : Int) < (l.length : Int) := by omega
      have wl : IntKind.i64.wrap ((gp.length : Int) - 1) = (gp.length : Int) - 1 := IntWalk.i64_in _ (by omega)
      have hbz0 : Hid (B0 ≤ wr.drew.heap.size) := Nat.le_trans hbz.out hDw.size
      clear hR hU hD hDw hbz
      cases hin : inB x 0 ((gp.length : Int) - 1)
      · have hinH := Lib.hid hin
        clear hin
        go_wp2_with fail
        refine wp_region_held_drew (S := fun w' => w'.cell? ⟨ub, k, none⟩ = some (.int .i64 x) ∧ w'.cell? ⟨bg, 1, none⟩ = some (.slice A gp.length c)) (by kernel_rfl) ⟨z0, e1⟩ (fun hH => ?_)
        refine tkH 0 (v := ?_) rfl (fun _ _ _ h => h) (Or.inl ⟨by rfl, ?_⟩) hH ?_
        rotate_left
        · intro w9 hSw
          try dsimp only at hSw
          obtain ⟨s0, s1⟩ := hSw
          go_simp
          try with_reducible rfl
        try simp only [Act.put, List.setIfInBounds_toArray, List.set_cons_zero, List.set_cons_succ]
        refine tkH 1 (v := ?_) rfl (fun _ _ _ h => h) (Or.inl ⟨by rfl, ?_⟩) hH ?_
        rotate_left
        · intro w9 hSw
          try dsimp only at hSw
          obtain ⟨s0, s1⟩ := hSw
          go_simp
          try with_reducible rfl
        try simp only [Act.put, List.setIfInBounds_toArray, List.set_cons_zero, List.set_cons_succ]
        refine tkH 2 (v := ?_) rfl (fun _ _ _ h => h) (Or.inl ⟨by rfl, ?_⟩) hH ?_
        rotate_left
        · intro w9 hSw
          try dsimp only at hSw
          obtain ⟨s0, s1⟩ := hSw
          go_simp
          try with_reducible rfl
        try simp only [Act.put, List.setIfInBounds_toArray, List.set_cons_zero, List.set_cons_succ]
        refine tkH 3 (v := ?_) rfl (fun _ _ _ h => h) (Or.inl ⟨by rfl, ?_⟩) hH ?_
        rotate_left
        · intro w9 hSw
          try dsimp only at hSw
          obtain ⟨s0, s1⟩ := hSw
          go_simp
          try with_reducible rfl
        try simp only [Act.put, List.setIfInBounds_toArray, List.set_cons_zero, List.set_cons_succ]
        refine tkH 4 (v := ?_) rfl (fun _ _ _ h => h) (Or.inl ⟨by rfl, ?_⟩) hH ?_
        rotate_left
        · intro w9 hSw
          try dsimp only at hSw
          obtain ⟨s0, s1⟩ := hSw
          go_simp
          try with_reducible rfl
        try simp only [Act.put, List.setIfInBounds_toArray, List.set_cons_zero, List.set_cons_succ]
        refine tkH 5 (v := ?_) rfl (fun _ _ _ h => h) (Or.inl ⟨by rfl, ?_⟩) hH ?_
        rotate_left
        · intro w9 hSw
          try dsimp only at hSw
          obtain ⟨s0, s1⟩ := hSw
          go_simp
          try with_reducible rfl
        try simp only [Act.put, List.setIfInBounds_toArray, List.set_cons_zero, List.set_cons_succ]
        refine tkH 6 (v := ?_) rfl (fun _ _ _ h => h) (Or.inl ⟨by rfl, ?_⟩) hH ?_
        rotate_left
        · intro w9 hSw
          try dsimp only at hSw
          obtain ⟨s0, s1⟩ := hSw
          go_simp
          try with_reducible rfl
        try simp only [Act.put, List.setIfInBounds_toArray, List.set_cons_zero, List.set_cons_succ]
        refine tkH 7 (v := ?_) rfl (fun _ _ _ h => h) (Or.inl ⟨by rfl, ?_⟩) hH ?_
        rotate_left
        · intro w9 hSw
          try dsimp only at hSw
          obtain ⟨s0, s1⟩ := hSw
          go_simp
          try with_reducible rfl
        try simp only [Act.put, List.setIfInBounds_toArray, List.set_cons_zero, List.set_cons_succ]
        refine wpAnyH_ready (rs := [8]) (by kernel_rfl) (by simp) ?_
        refine AllReadyH.cons rfl (fun K hK => ?_) AllReadyH.nil
        go_simp
        go_at_call 89
        refine (spec_l01In _ _ _ _).mono ?_
        rintro e9 w9 ⟨rfl, rfl⟩
        rw [hinH.out]
        refine hK.out _ _ ⟨z0, e1⟩ (fun hH => ?_)
        clear hK K
        try simp only [Act.put, List.setIfInBounds_toArray, List.set_cons_zero, List.set_cons_succ]
        refine wpAnyH_done (by kernel_rfl) ?_ _
        generalize wr.drew = wv at *
        clear hH z0 e0 e1
        go_wp2_with fail
        refine (spec_l01Next g 4 _ hD1.src (by omega)).mono ?_
        rintro e wy ⟨z4, rfl, hz4, hN⟩
        have hR := own_draw hR1 (by decide) hD1.src hN
        have hU := own_draw hU1 (by decide) hD1.src hN
        have hD := hD1.draw hN
        have hbz : Hid (B0 ≤ wy.heap.size) := Nat.le_trans hbz0.out hN.2.size
        clear hN hz4 hR1 hU1 hD1 lbg lbg1
        obtain ⟨X9, hX9⟩ : ∃ X9, IntKind.i64.wrap (1 + z4) = X9 := ⟨_, rfl⟩
        have hZ : Below wy.heap.size wy (wy.alloc (.cells #[.int .i64 (X9)] 2)) := (Below.refl _ _).alloc (Nat.le_refl _) _
        have hR9 := Lib.hid (hR.now hZ)
        have hU9 := Lib.hid (hU.now hZ)
        have hD9 := Lib.hid (hD.below hZ)
        have hlenA : R.length + [X9].length ≤ 1099511627776 := by have := hRl.out; simp; omega
        have hsz : Hid (B0 ≤ (wy.alloc (.cells #[.int .i64 (X9)] 2)).heap.size) := Nat.le_trans hbz.out hZ.size
        have hLL : Hid ((R ++ [X9]).length = R.length + 1) := by show _ = _; simp
        clear hR hU hD hZ
        go_wp2_with (at_builtin; refine wpList_append_lst rfl _ _ 38 rfl intCell 1 intCell_one (by omega) B0 2 _ 8 Try.underlying38 info_i64 rfl _ _ rfl hR9.out _ _ _ _ [X9] rfl (lst_new1 _ _ intCell_len _ _ _ _ rfl _ (by simp)) hlenA (by omega) hsz.out ?_; intro v' w9 hO1 hG1 hD1)
        go_roundw
        case rel => exact ⟨R ++ [X9], k + 1, by go_num, hlt, by show _ = _; rw [hLL.out, hRl.out], Nat.le_trans hsz.out hG1.size, hO1, own_kept hU9.out hG1 (fun q a b => by have := hult.out q a; have := (hR9.out.lt q b).1; omega), hD9.out.appN (hR9.out.rebase hs9H.out) hG1⟩
        case measure => simp [intOf]; omega
      · have hinH := Lib.hid hin
        have hxb := (inB_iff _ _ _).1 hin
        obtain ⟨q, rfl⟩ := Int.eq_ofNat_of_zero_le hxb.1
        have hq : q < gp.length := by omega
        clear hin hxb
        go_wp2_with fail
        refine wp_region_held_drew (S := fun w' => w'.cell? ⟨ub, k, none⟩ = some (.int .i64 (q : Nat)) ∧ w'.cell? ⟨bg, 1, none⟩ = some (.slice A gp.length c)) (by kernel_rfl) ⟨z0, e1⟩ (fun hH => ?_)
        refine tkH 0 (v := ?_) rfl (fun _ _ _ h => h) (Or.inl ⟨by rfl, ?_⟩) hH ?_
        rotate_left
        · intro w9 hSw
          try dsimp only at hSw
          obtain ⟨s0, s1⟩ := hSw
          go_simp
          try with_reducible rfl
        try simp only [Act.put, List.setIfInBounds_toArray, List.set_cons_zero, List.set_cons_succ]
        refine tkH 1 (v := ?_) rfl (fun _ _ _ h => h) (Or.inl ⟨by rfl, ?_⟩) hH ?_
        rotate_left
        · intro w9 hSw
          try dsimp only at hSw
          obtain ⟨s0, s1⟩ := hSw
          go_simp
          try with_reducible rfl
        try simp only [Act.put, List.setIfInBounds_toArray, List.set_cons_zero, List.set_cons_succ]
        refine tkH 2 (v := ?_) rfl (fun _ _ _ h => h) (Or.inl ⟨by rfl, ?_⟩) hH ?_
        rotate_left
        · intro w9 hSw
          try dsimp only at hSw
          obtain ⟨s0, s1⟩ := hSw
          go_simp
          try with_reducible rfl
        try simp only [Act.put, List.setIfInBounds_toArray, List.set_cons_zero, List.set_cons_succ]
        refine tkH 3 (v := ?_) rfl (fun _ _ _ h => h) (Or.inl ⟨by rfl, ?_⟩) hH ?_
        rotate_left
        · intro w9 hSw
          try dsimp only at hSw
          obtain ⟨s0, s1⟩ := hSw
          go_simp
          try with_reducible rfl
        try simp only [Act.put, List.setIfInBounds_toArray, List.set_cons_zero, List.set_cons_succ]
        refine tkH 4 (v := ?_) rfl (fun _ _ _ h => h) (Or.inl ⟨by rfl, ?_⟩) hH ?_
        rotate_left
        · intro w9 hSw
          try dsimp only at hSw
          obtain ⟨s0, s1⟩ := hSw
          go_simp
          try with_reducible rfl
        try simp only [Act.put, List.setIfInBounds_toArray, List.set_cons_zero, List.set_cons_succ]
        refine tkH 5 (v := ?_) rfl (fun _ _ _ h => h) (Or.inl ⟨by rfl, ?_⟩) hH ?_
        rotate_left
        · intro w9 hSw
          try dsimp only at hSw
          obtain ⟨s0, s1⟩ := hSw
          go_simp
          try with_reducible rfl
        try simp only [Act.put, List.setIfInBounds_toArray, List.set_cons_zero, List.set_cons_succ]
        refine tkH 6 (v := ?_) rfl (fun _ _ _ h => h) (Or.inl ⟨by rfl, ?_⟩) hH ?_
        rotate_left
        · intro w9 hSw
          try dsimp only at hSw
          obtain ⟨s0, s1⟩ := hSw
          go_simp
          try with_reducible rfl
        try simp only [Act.put, List.setIfInBounds_toArray, List.set_cons_zero, List.set_cons_succ]
        refine tkH 7 (v := ?_) rfl (fun _ _ _ h => h) (Or.inl ⟨by rfl, ?_⟩) hH ?_
        rotate_left
        · intro w9 hSw
          try dsimp only at hSw
          obtain ⟨s0, s1⟩ := hSw
          go_simp
          try with_reducible rfl
        try simp only [Act.put, List.setIfInBounds_toArray, List.set_cons_zero, List.set_cons_succ]
        refine wpAnyH_ready (rs := [8]) (by kernel_rfl) (by simp) ?_
        refine AllReadyH.cons rfl (fun K hK => ?_) AllReadyH.nil
        go_simp
        go_at_call 89
        refine (spec_l01In _ _ _ _).mono ?_
        rintro e9 w9 ⟨rfl, rfl⟩
        rw [hinH.out]
        refine hK.out _ _ ⟨z0, e1⟩ (fun hH => ?_)
        clear hK K
        try simp only [Act.put, List.setIfInBounds_toArray, List.set_cons_zero, List.set_cons_succ]
        refine wpAnyH_done (by kernel_rfl) ?_ _
        generalize wr.drew = wv at *
        obtain ⟨pb, cp, hp, _, _, _, hcp⟩ := hD1.own.at_ Place.cells_len q hq
        obtain rfl : A = some ⟨pb, 0, none⟩ := by injection hp
        have t0 := hcp 3 _ (by omega) rfl
        obtain ⟨tk, htk⟩ : ∃ tk, gp[q].tokens = tk := ⟨_, rfl⟩
        rw [show (Value.int IntKind.i64 gp[q].tokens) = .int .i64 tk by rw [htk]] at t0
        clear hp hcp htk
        have hDw : Below wv.heap.size wv wv.drew := Below.drew (Below.refl _ wv)
        replace z0 := cell_keep z0 hDw
        replace e0 := cell_keep e0 hDw
        replace e1 := cell_keep e1 hDw
        replace t0 := cell_keep t0 hDw
        replace hR1 := hR1.now hDw
        replace hU1 := hU1.now hDw
        replace hD1 := hD1.below hDw
        replace lbg1 := hD1.box.lt
        replace hbz0 : Hid (B0 ≤ wv.drew.heap.size) := Nat.le_trans hbz0.out hDw.size
        clear hDw
        have j1 : (0 : Int) ≤ (q : Int) := by omega
        have j2 : (q : Int) < (gp.length : Int) := by omega
        by_cases h1t : 1 < tk
        · go_wp2_with fail
          refine wp_region_held_drew (S := fun w' => w'.cell? ⟨ub, k, none⟩ = some (.int .i64 (q : Nat)) ∧ w'.cell? ⟨bg, 1, none⟩ = some (.slice (some ⟨pb, 0, none⟩) gp.length c) ∧ w'.cell? ⟨pb, q * 4 + 3, none⟩ = some (.int .i64 tk)) (by kernel_rfl) ⟨z0, e1, t0⟩ (fun hH => ?_)
          refine tkH 0 (v := ?_) rfl (fun _ _ _ h => h) (Or.inl ⟨by rfl, ?_⟩) hH ?_
          rotate_left
          · intro w9 hSw
            try dsimp only at hSw
            obtain ⟨s0, s1, s2⟩ := hSw
            go_simp
            try with_reducible rfl
          try simp only [Act.put, List.setIfInBounds_toArray, List.set_cons_zero, List.set_cons_succ]
          refine tkH 1 (v := ?_) rfl (fun _ _ _ h => h) (Or.inl ⟨by rfl, ?_⟩) hH ?_
          rotate_left
          · intro w9 hSw
            try dsimp only at hSw
            obtain ⟨s0, s1, s2⟩ := hSw
            go_simp
            try with_reducible rfl
          try simp only [Act.put, List.setIfInBounds_toArray, List.set_cons_zero, List.set_cons_succ]
          refine tkH 2 (v := ?_) rfl (fun _ _ _ h => h) (Or.inl ⟨by rfl, ?_⟩) hH ?_
          rotate_left
          · intro w9 hSw
            try dsimp only at hSw
            obtain ⟨s0, s1, s2⟩ := hSw
            go_simp
            try with_reducible rfl
          try simp only [Act.put, List.setIfInBounds_toArray, List.set_cons_zero, List.set_cons_succ]
          refine tkH 3 (v := ?_) rfl (fun _ _ _ h => h) (Or.inl ⟨by rfl, ?_⟩) hH ?_
          rotate_left
          · intro w9 hSw
            try dsimp only at hSw
            obtain ⟨s0, s1, s2⟩ := hSw
            go_simp
            try with_reducible rfl
          try simp only [Act.put, List.setIfInBounds_toArray, List.set_cons_zero, List.set_cons_succ]
          refine tkH 4 (v := ?_) rfl (fun _ _ _ h => h) (Or.inl ⟨by rfl, ?_⟩) hH ?_
          rotate_left
          · intro w9 hSw
            try dsimp only at hSw
            obtain ⟨s0, s1, s2⟩ := hSw
            go_simp
            try with_reducible rfl
          try simp only [Act.put, List.setIfInBounds_toArray, List.set_cons_zero, List.set_cons_succ]
          refine tkH 5 (v := ?_) rfl (fun _ _ _ h => h) (Or.inl ⟨by rfl, ?_⟩) hH ?_
          rotate_left
          · intro w9 hSw
            try dsimp only at hSw
            obtain ⟨s0, s1, s2⟩ := hSw
            go_simp
            try with_reducible rfl
          try simp only [Act.put, List.setIfInBounds_toArray, List.set_cons_zero, List.set_cons_succ]
          refine tkH 6 (v := ?_) rfl (fun _ _ _ h => h) (Or.inl ⟨by rfl, ?_⟩) hH ?_
          rotate_left
          · intro w9 hSw
            try dsimp only at hSw
            obtain ⟨s0, s1, s2⟩ := hSw
            go_simp
            try with_reducible rfl
          try simp only [Act.put, List.setIfInBounds_toArray, List.set_cons_zero, List.set_cons_succ]
          refine tkH 7 (v := ?_) rfl (fun _ _ _ h => h) (Or.inl ⟨by rfl, ?_⟩) hH ?_
          rotate_left
          · intro w9 hSw
            try dsimp only at hSw
            obtain ⟨s0, s1, s2⟩ := hSw
            go_simp
            try with_reducible rfl
          try simp only [Act.put, List.setIfInBounds_toArray, List.set_cons_zero, List.set_cons_succ]
          refine tkH 8 (v := ?_) rfl (fun _ _ _ h => h) (Or.inl ⟨by rfl, ?_⟩) hH ?_
          rotate_left
          · intro w9 hSw
            try dsimp only at hSw
            obtain ⟨s0, s1, s2⟩ := hSw
            go_simp
            try with_reducible rfl
          try simp only [Act.put, List.setIfInBounds_toArray, List.set_cons_zero, List.set_cons_succ]
          refine tkH 9 (v := ?_) rfl (fun _ _ _ h => h) (Or.inl ⟨by rfl, ?_⟩) hH ?_
          rotate_left
          · intro w9 hSw
            try dsimp only at hSw
            obtain ⟨s0, s1, s2⟩ := hSw
            go_simp
            try with_reducible rfl
          try simp only [Act.put, List.setIfInBounds_toArray, List.set_cons_zero, List.set_cons_succ]
          refine tkH 10 (v := ?_) rfl (fun _ _ _ h => h) (Or.inl ⟨by rfl, ?_⟩) hH ?_
          rotate_left
          · intro w9 hSw
            try dsimp only at hSw
            obtain ⟨s0, s1, s2⟩ := hSw
            go_simp
            try with_reducible rfl
          try simp only [Act.put, List.setIfInBounds_toArray, List.set_cons_zero, List.set_cons_succ]
          refine wpAnyH_done (by kernel_rfl) ?_ _
          generalize wv.drew = wv2 at *
          clear hH z0 e0 e1
          go_wp2_with fail
          refine (spec_l01Next g 4 _ hD1.src (by omega)).mono ?_
          rintro e wy ⟨z4, rfl, hz4, hN⟩
          have hR := own_draw hR1 (by decide) hD1.src hN
          have hU := own_draw hU1 (by decide) hD1.src hN
          have hD := hD1.draw hN
          have hbz : Hid (B0 ≤ wy.heap.size) := Nat.le_trans hbz0.out hN.2.size
          clear hN hz4 hR1 hU1 hD1 lbg lbg1
          obtain ⟨X9, hX9⟩ : ∃ X9, IntKind.i64.wrap (tk + z4) = X9 := ⟨_, rfl⟩
          have hZ : Below wy.heap.size wy (wy.alloc (.cells #[.int .i64 (X9)] 2)) := (Below.refl _ _).alloc (Nat.le_refl _) _
          have hR9 := Lib.hid (hR.now hZ)
          have hU9 := Lib.hid (hU.now hZ)
          have hD9 := Lib.hid (hD.below hZ)
          have hlenA : R.length + [X9].length ≤ 1099511627776 := by have := hRl.out; simp; omega
          have hsz : Hid (B0 ≤ (wy.alloc (.cells #[.int .i64 (X9)] 2)).heap.size) := Nat.le_trans hbz.out hZ.size
          have hLL : Hid ((R ++ [X9]).length = R.length + 1) := by show _ = _; simp
          clear hR hU hD hZ
          go_wp2_with (at_builtin; refine wpList_append_lst rfl _ _ 38 rfl intCell 1 intCell_one (by omega) B0 2 _ 8 Try.underlying38 info_i64 rfl _ _ rfl hR9.out _ _ _ _ [X9] rfl (lst_new1 _ _ intCell_len _ _ _ _ rfl _ (by simp)) hlenA (by omega) hsz.out ?_; intro v' w9 hO1 hG1 hD1)
          go_roundw
          case rel => exact ⟨R ++ [X9], k + 1, by go_num, hlt, by show _ = _; rw [hLL.out, hRl.out], Nat.le_trans hsz.out hG1.size, hO1, own_kept hU9.out hG1 (fun q a b => by have := hult.out q a; have := (hR9.out.lt q b).1; omega), hD9.out.appN (hR9.out.rebase hs9H.out) hG1⟩
          case measure => simp [intOf]; omega
        · go_wp2_with fail
          refine wp_region_held_drew (S := fun w' => w'.cell? ⟨ub, k, none⟩ = some (.int .i64 (q : Nat)) ∧ w'.cell? ⟨bg, 1, none⟩ = some (.slice (some ⟨pb, 0, none⟩) gp.length c) ∧ w'.cell? ⟨pb, q * 4 + 3, none⟩ = some (.int .i64 tk)) (by kernel_rfl) ⟨z0, e1, t0⟩ (fun hH => ?_)
          refine tkH 0 (v := ?_) rfl (fun _ _ _ h => h) (Or.inl ⟨by rfl, ?_⟩) hH ?_
          rotate_left
          · intro w9 hSw
            try dsimp only at hSw
            obtain ⟨s0, s1, s2⟩ := hSw
            go_simp
            try with_reducible rfl
          try simp only [Act.put, List.setIfInBounds_toArray, List.set_cons_zero, List.set_cons_succ]
          refine tkH 1 (v := ?_) rfl (fun _ _ _ h => h) (Or.inl ⟨by rfl, ?_⟩) hH ?_
          rotate_left
          · intro w9 hSw
            try dsimp only at hSw
            obtain ⟨s0, s1, s2⟩ := hSw
            go_simp
            try with_reducible rfl
          try simp only [Act.put, List.setIfInBounds_toArray, List.set_cons_zero, List.set_cons_succ]
          refine tkH 2 (v := ?_) rfl (fun _ _ _ h => h) (Or.inl ⟨by rfl, ?_⟩) hH ?_
          rotate_left
          · intro w9 hSw
            try dsimp only at hSw
            obtain ⟨s0, s1, s2⟩ := hSw
            go_simp
            try with_reducible rfl
          try simp only [Act.put, List.setIfInBounds_toArray, List.set_cons_zero, List.set_cons_succ]
          refine tkH 3 (v := ?_) rfl (fun _ _ _ h => h) (Or.inl ⟨by rfl, ?_⟩) hH ?_
          rotate_left
          · intro w9 hSw
            try dsimp only at hSw
            obtain ⟨s0, s1, s2⟩ := hSw
            go_simp
            try with_reducible rfl
          try simp only [Act.put, List.setIfInBounds_toArray, List.set_cons_zero, List.set_cons_succ]
          refine tkH 4 (v := ?_) rfl (fun _ _ _ h => h) (Or.inl ⟨by rfl, ?_⟩) hH ?_
          rotate_left
          · intro w9 hSw
            try dsimp only at hSw
            obtain ⟨s0, s1, s2⟩ := hSw
            go_simp
            try with_reducible rfl
          try simp only [Act.put, List.setIfInBounds_toArray, List.set_cons_zero, List.set_cons_succ]
          refine tkH 5 (v := ?_) rfl (fun _ _ _ h => h) (Or.inl ⟨by rfl, ?_⟩) hH ?_
          rotate_left
          · intro w9 hSw
            try dsimp only at hSw
            obtain ⟨s0, s1, s2⟩ := hSw
            go_simp
            try with_reducible rfl
          try simp only [Act.put, List.setIfInBounds_toArray, List.set_cons_zero, List.set_cons_succ]
          refine tkH 6 (v := ?_) rfl (fun _ _ _ h => h) (Or.inl ⟨by rfl, ?_⟩) hH ?_
          rotate_left
          · intro w9 hSw
            try dsimp only at hSw
            obtain ⟨s0, s1, s2⟩ := hSw
            go_simp
            try with_reducible rfl
          try simp only [Act.put, List.setIfInBounds_toArray, List.set_cons_zero, List.set_cons_succ]
          refine tkH 7 (v := ?_) rfl (fun _ _ _ h => h) (Or.inl ⟨by rfl, ?_⟩) hH ?_
          rotate_left
          · intro w9 hSw
            try dsimp only at hSw
            obtain ⟨s0, s1, s2⟩ := hSw
            go_simp
            try with_reducible rfl
          try simp only [Act.put, List.setIfInBounds_toArray, List.set_cons_zero, List.set_cons_succ]
          refine tkH 8 (v := ?_) rfl (fun _ _ _ h => h) (Or.inl ⟨by rfl, ?_⟩) hH ?_
          rotate_left
          · intro w9 hSw
            try dsimp only at hSw
            obtain ⟨s0, s1, s2⟩ := hSw
            go_simp
            try with_reducible rfl
          try simp only [Act.put, List.setIfInBounds_toArray, List.set_cons_zero, List.set_cons_succ]
          refine tkH 9 (v := ?_) rfl (fun _ _ _ h => h) (Or.inl ⟨by rfl, ?_⟩) hH ?_
          rotate_left
          · intro w9 hSw
            try dsimp only at hSw
            obtain ⟨s0, s1, s2⟩ := hSw
            go_simp
            try with_reducible rfl
          try simp only [Act.put, List.setIfInBounds_toArray, List.set_cons_zero, List.set_cons_succ]
          refine tkH 10 (v := ?_) rfl (fun _ _ _ h => h) (Or.inl ⟨by rfl, ?_⟩) hH ?_
          rotate_left
          · intro w9 hSw
            try dsimp only at hSw
            obtain ⟨s0, s1, s2⟩ := hSw
            go_simp
            try with_reducible rfl
          try simp only [Act.put, List.setIfInBounds_toArray, List.set_cons_zero, List.set_cons_succ]
          refine wpAnyH_done (by kernel_rfl) ?_ _
          generalize wv.drew = wv2 at *
          clear hH z0 e0 e1
          go_wp2_with fail
          refine (spec_l01Next g 4 _ hD1.src (by omega)).mono ?_
          rintro e wy ⟨z4, rfl, hz4, hN⟩
          have hR := own_draw hR1 (by decide) hD1.src hN
          have hU := own_draw hU1 (by decide) hD1.src hN
          have hD := hD1.draw hN
          have hbz : Hid (B0 ≤ wy.heap.size) := Nat.le_trans hbz0.out hN.2.size
          clear hN hz4 hR1 hU1 hD1 lbg lbg1
          obtain ⟨X9, hX9⟩ : ∃ X9, IntKind.i64.wrap (1 + z4) = X9 := ⟨_, rfl⟩
          have hZ : Below wy.heap.size wy (wy.alloc (.cells #[.int .i64 (X9)] 2)) := (Below.refl _ _).alloc (Nat.le_refl _) _
          have hR9 := Lib.hid (hR.now hZ)
          have hU9 := Lib.hid (hU.now hZ)
          have hD9 := Lib.hid (hD.below hZ)
          have hlenA : R.length + [X9].length ≤ 1099511627776 := by have := hRl.out; simp; omega
          have hsz : Hid (B0 ≤ (wy.alloc (.cells #[.int .i64 (X9)] 2)).heap.size) := Nat.le_trans hbz.out hZ.size
          have hLL : Hid ((R ++ [X9]).length = R.length + 1) := by show _ = _; simp
          clear hR hU hD hZ
          go_wp2_with (at_builtin; refine wpList_append_lst rfl _ _ 38 rfl intCell 1 intCell_one (by omega) B0 2 _ 8 Try.underlying38 info_i64 rfl _ _ rfl hR9.out _ _ _ _ [X9] rfl (lst_new1 _ _ intCell_len _ _ _ _ rfl _ (by simp)) hlenA (by omega) hsz.out ?_; intro v' w9 hO1 hG1 hD1)
          go_roundw
          case rel => exact ⟨R ++ [X9], k + 1, by go_num, hlt, by show _ = _; rw [hLL.out, hRl.out], Nat.le_trans hsz.out hG1.size, hO1, own_kept hU9.out hG1 (fun q a b => by have := hult.out q a; have := (hR9.out.lt q b).1; omega), hD9.out.appN (hR9.out.rebase hs9H.out) hG1⟩
          case measure => simp [intOf]; omega
    · obtain rfl : k = l.length := by omega
      have hRl2 := hRl
      have hsr := hR.rebase hs9H.out
      go_wp2_with fail
      refine (spec_l01Next g 20 _ hD.src (by omega)).mono ?_
      rintro e we ⟨y, rfl, hy, hN⟩
      replace hR := own_draw hR (by decide) hD.src hN
      replace hU := own_draw hU (by decide) hD.src hN
      replace hD := hD.draw hN
      replace hbz : Hid (B0 ≤ we.heap.size) := Nat.le_trans hbz.out hN.2.size
      clear hN hy hsr
      by_cases hy0 : y = 0
      · subst hy0
        go_wp2_with fail
        refine (spec_l01Next g 10 _ hD.src (by omega)).mono ?_
        rintro e wk ⟨pk, rfl, hpk, hN⟩
        replace hR := own_draw hR (by decide) hD.src hN
        replace hU := own_draw hU (by decide) hD.src hN
        replace hD := hD.draw hN
        replace hbz : Hid (B0 ≤ wk.heap.size) := Nat.le_trans hbz.out hN.2.size
        clear hN hpk
        have hZ : Below wk.heap.size wk (wk.alloc (.cells #[.int .i64 (pk)] 2)) := (Below.refl _ _).alloc (Nat.le_refl _) _
        have hR9 := Lib.hid (hR.now hZ)
        have hU9 := Lib.hid (hU.now hZ)
        have hD9 := Lib.hid (hD.below hZ)
        have hlenA : R.length + [pk].length ≤ 1099511627776 := by have := hRl.out; simp; omega
        have hsz : Hid (B0 ≤ (wk.alloc (.cells #[.int .i64 (pk)] 2)).heap.size) := Nat.le_trans hbz.out hZ.size
        have hLL : Hid ((R ++ [pk]).length = R.length + 1) := by show _ = _; simp
        clear hR hU hD hZ
        go_wp2_with (at_builtin; refine wpList_append_lst rfl _ _ 38 rfl intCell 1 intCell_one (by omega) B0 2 _ 8 Try.underlying38 info_i64 rfl _ _ rfl hR9.out _ _ _ _ [pk] rfl (lst_new1 _ _ intCell_len _ _ _ _ rfl _ (by simp)) hlenA (by omega) hsz.out ?_; intro v' w9 hO1 hG1 hD1; obtain ⟨V1, cv1, rfl⟩ := own_shape_n hO1 hLL.out; have hD8 := hD9.out.appN (hR9.out.rebase hs9H.out) hG1; have l0 := hD8.box.lt; obtain ⟨e0, e1⟩ := hD8.box.c2; have f0 := hD8.res.frozen 0; have f1 := hD8.res.frozen 1; have lb2 := hD8.res.lt; obtain ⟨r0, r1⟩ := hD8.res.c2; have hU8 := own_kept hU9.out hG1 (fun q a b => by have := hult.out q a; have := (hR9.out.lt q b).1; omega))
        have f0 := hD8.res.frozen 0
        have f1 := hD8.res.frozen 1
        have lb2 := hD8.res.lt
        obtain ⟨r0, r1⟩ := hD8.res.c2
        have hF := Lib.hid hD8.fin
        have hq2 : Hid (RmRet w.heap.size _ _) := Lib.hid ⟨l, hll, own_far (own_far hU8 (p := ⟨b2, 0, none⟩) (hU8.ne_blk hD8.res (by decide)) (.int .i64 ge)) (p := ⟨b2, 1, none⟩) (hU8.ne_blk hD8.res (by decide)) (.slice A gp.length c)⟩
        have hq4 : Hid (RmRet2 w.heap.size _ _) := Lib.hid ⟨R ++ [pk], by have := hRl2.out; first | omega | (simp; omega), Own.rebase (own_far (own_far hO1 (p := ⟨b2, 0, none⟩) (hO1.ne_blk hD8.res (by decide)) (.int .i64 ge)) (p := ⟨b2, 1, none⟩) (hO1.ne_blk hD8.res (by decide)) (.slice A gp.length c)) hs9H.out⟩
        refine bodyPost_ret (v := .tuple #[.agg #[.int .i64 ge, .slice A gp.length c], .slice UA l.length uc, .slice V1 (R.length + 1) cv1]) (by simp [results, Try.results73, go_sem, r0, r1]) rfl ⟨ge, gp, _, _, _, rfl, by omega, by omega, by omega, hF.out.1, hq2.out, hq4.out, hF.out.2⟩
      · have q0 : (y == 0) = false := by simpa using hy0
        clear hy0
        have l0 := hD.box.lt
        obtain ⟨e0, e1⟩ := hD.box.c2
        have f0 := hD.res.frozen 0
        have f1 := hD.res.frozen 1
        have lb2 := hD.res.lt
        obtain ⟨r0, r1⟩ := hD.res.c2
        have hF := Lib.hid hD.fin
        have hq2 : Hid (RmRet w.heap.size _ _) := Lib.hid ⟨l, hll, own_far (own_far hU (p := ⟨b2, 0, none⟩) (hU.ne_blk hD.res (by decide)) (.int .i64 ge)) (p := ⟨b2, 1, none⟩) (hU.ne_blk hD.res (by decide)) (.slice A gp.length c)⟩
        have hq4 : Hid (RmRet2 w.heap.size _ _) := Lib.hid ⟨R, by have := hRl2.out; first | omega | (simp; omega), Own.rebase (own_far (own_far hR (p := ⟨b2, 0, none⟩) (hR.ne_blk hD.res (by decide)) (.int .i64 ge)) (p := ⟨b2, 1, none⟩) (hR.ne_blk hD.res (by decide)) (.slice A gp.length c)) hs9H.out⟩
        go_wp2
        refine bodyPost_ret (v := .tuple #[.agg #[.int .i64 ge, .slice A gp.length c], .slice UA l.length uc, .slice RA R.length rc]) (by simp [results, Try.results73, go_sem, r0, r1]) rfl ⟨ge, gp, _, _, _, rfl, by omega, by omega, by omega, hF.out.1, hq2.out, hq4.out, hF.out.2⟩
end Go.Proofs.Ytbdklhahbeiffaa
