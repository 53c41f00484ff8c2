/-
  FnPrinted returns true for every input: a printed graph is compiled to one with the same places up to their order (the tied card).
  Conditions: none beyond the statement's own.
-/
import Derived.Test.YtcoomogabicfnaaGreatDoorDrW
import Derived.Test.YtcoomogabicfnaaGreatDoorPrtJ
import Derived.Test.YtcoomogabicfnaaGreatDoorPrtS
import Derived.Test.YtcoomogabicfnaaGreatDoorLoadA
import Derived.Test.YtcoomogabicfnaaGreatDoorSmpI
import Derived.Test.YtcoomogabicfnaaGreatDoorLikeG
import Derived.Test.YtcoomogabicfnaaGreatDoorEnv
import Derived.Test.YtcoomogabicfnaaGreatDoorOpen
namespace Go.Proofs.YtcoomogabicfnaaGreatDoor
open Go.RowKit Go.ChangeShapes Go.WideShapes Go.ChangeAt Go.Deep
set_option linter.unusedVariables false
set_option linter.unusedSimpArgs false
theorem compF_size {s : ByteArray} (h : (compF s).cd = 0) : s.size ≤ 2000 := by
  by_cases h2 : 2000 < s.size
  · unfold compF at h
    rw [if_pos h2] at h
    cases h
  · omega
/-- What is printed is compiled to the same places, up to their order. -/
theorem printed_again {ge : Int} {gp : List Place} {N : List ByteArray} (h : (printF ge gp N).2 = 0) :
    ∃ PL, compF (printF ge gp N).1 = ⟨ge, PL, N, 0, 0⟩ ∧ PL.length = gp.length ∧ simplF ge PL = (ge, simpF gp, 0) ∧ simplF ge gp = (ge, simpF gp, 0) ∧ (printF ge gp N).1.size ≤ 2000 := by
  obtain ⟨h1, h2, h3⟩ := print_compile h
  have hs : simpF (firstsF gp N.length ++ othersF gp (loopsF gp N.length) gp.length) = simpF gp := isSimp_perm_eq (printed_mem h3)
  have hk := compF_ok (s := (printF ge gp N).1) (by rw [h1])
  have hz := compF_size (s := (printF ge gp N).1) (by rw [h1])
  rw [h1] at hk
  refine ⟨_, h1, printed_len h3, ?_, ?_, hz⟩
  · unfold simplF
    rw [if_pos hk.2.2.1, hs]
  · unfold simplF
    rw [if_pos h2]
set_option maxHeartbeats 16000000 in
set_option maxRecDepth 100000 in
theorem law_FnPrinted (cv : Value) (bs : List Int) (w : World) (a0 : Lst byteCell 1 w w.heap.size cv bs) (o0 : Hid (∀ b ∈ bs, 0 ≤ b ∧ b ≤ 255)) (hE : Env w) :
    Calls Tryz.prog 3 #[cv] w fun e w' => e = .returned (.bool true) ∧ Below w.heap.size w w' := by
  obtain ⟨CA, cc, rfl⟩ := a0.shape
  by_cases hbig : (4096 : Int) < (bs.length : Int)
  · have hq : Hid (decide ((4096 : Int) < (bs.length : Int)) = true) := decide_eq_true hbig
    clear hbig
    go_enter Tryz.func3, Tryz.ntmps3
    go_wp2_with (go_at_call 4; refine (laws_big _ _ _ a0).mono ?_; rintro e w1 ⟨rfl, rfl⟩; rw [hq.out])
    go_ret
    exact ⟨rfl, Below.refl _ _⟩
  · have hq : Hid (decide ((4096 : Int) < (bs.length : Int)) = false) := decide_eq_false hbig
    clear hbig
    go_enter Tryz.func3, Tryz.ntmps3
    go_wp2_with fail
    refine (laws_big _ _ _ a0).mono ?_
    rintro e w1 ⟨rfl, rfl⟩
    rw [hq.out]
    go_wp2_with fail
    refine (spec_DrawPrintText _ bs w a0 o0).mono ?_
    rintro e w0 ⟨ge, gp, v, u, l, rfl, hglen, hll, hsz, hO, hN, hB⟩
    obtain ⟨GA, gc, rfl⟩ := hO.shape
    obtain ⟨NA, nc, rfl⟩ := hN.shape
    have hNm : Hid (∀ s ∈ l, s.size ≤ maxLen) := fun s hs => Nat.le_trans (hsz.out s hs) (by unfold maxLen; omega)
    have hA : Below w0.heap.size w0 (w0.alloc (.cells #[.int .i64 ge, .slice GA gp.length gc] 26)) := (Below.refl _ _).alloc (Nat.le_refl _) _
    have hx1 : Blk (w0.alloc (.cells #[.int .i64 ge, .slice GA gp.length gc] 26)) w0.heap.size 26 #[.int .i64 ge, .slice GA gp.length gc] := Blk.newAt w0 _ rfl
    go_wp2_with fail
    replace hO := hO.now hA
    replace hN := hN.now hA
    replace hB := hB.trans (hA.mono hB.size)
    clear hA
    generalize (w0.alloc (.cells #[.int .i64 ge, .slice GA gp.length gc] 26)) = wa at *
    generalize w0.heap.size = b1 at *
    obtain ⟨tx, cd, hP⟩ : ∃ a b, printF ge gp l = (a, b) := ⟨_, _, rfl⟩
    have hPH := Lib.hid hP
    refine (impl_PrintText _ ge gp _ l _ hO.lst hN.lst (hE.now hB).tab hNm).mono ?_
    rintro e w1 ⟨rfl, hB2⟩
    rw [hP]
    replace hO := hO.now hB2
    replace hN := hN.now hB2
    replace hx1 := hx1.now hB2
    replace hB := hB.trans (hB2.mono hB.size)
    clear hB2
    obtain ⟨khx10, khx11⟩ := hx1.c2
    have lhx1 := hx1.lt
    go_wp2_with fail
    clear khx10 khx11 lhx1
    refine (spec_PrintText _ ge gp _ l _ hO.lst hN.lst hNm).mono ?_
    rintro e w2 ⟨rfl, hB2⟩
    rw [hP]
    clear hP
    replace hO := hO.now hB2
    replace hN := hN.now hB2
    replace hx1 := hx1.now hB2
    replace hB := hB.trans (hB2.mono hB.size)
    clear hB2
    have a1 := a0.now hB
    go_wp2_with fail
    refine (spec_DrawStationLoad _ bs _ a1 o0).mono ?_
    rintro e w3 ⟨he, hp, hv, n, rfl, hhl, hH, hB2⟩
    obtain ⟨HA, hc, rfl⟩ := hH.shape
    replace hO := hO.now hB2
    replace hN := hN.now hB2
    replace hx1 := hx1.now hB2
    replace hB := hB.trans (hB2.mono hB.size)
    clear hB2
    clear a1
    have hA : Below w3.heap.size w3 (w3.alloc (.cells #[.int .i64 he, .slice HA hp.length hc] 26)) := (Below.refl _ _).alloc (Nat.le_refl _) _
    have hx2 : Blk (w3.alloc (.cells #[.int .i64 he, .slice HA hp.length hc] 26)) w3.heap.size 26 #[.int .i64 he, .slice HA hp.length hc] := Blk.newAt w3 _ rfl
    go_wp2_with fail
    replace hO := hO.now hA
    replace hN := hN.now hA
    replace hx1 := hx1.now hA
    replace hH := hH.now hA
    replace hB := hB.trans (hA.mono hB.size)
    clear hA
    generalize (w3.alloc (.cells #[.int .i64 he, .slice HA hp.length hc] 26)) = wb at *
    generalize w3.heap.size = b2 at *
    obtain ⟨ra, rb, rc, hL⟩ : ∃ a b c, loadF he hp n = (a, b, c) := ⟨_, _, _, rfl⟩
    refine (impl_StationLoad _ he hp n _ hH.lst).mono ?_
    rintro e w4 ⟨rfl, hB2⟩
    rw [hL]
    replace hO := hO.now hB2
    replace hN := hN.now hB2
    replace hx1 := hx1.now hB2
    replace hH := hH.now hB2
    replace hx2 := hx2.now hB2
    replace hB := hB.trans (hB2.mono hB.size)
    clear hB2
    have hA : Below w4.heap.size w4 (w4.alloc (.cells #[.int .i64 ra, .int .i64 rb] 35)) := (Below.refl _ _).alloc (Nat.le_refl _) _
    have hr1 : Blk (w4.alloc (.cells #[.int .i64 ra, .int .i64 rb] 35)) w4.heap.size 35 #[.int .i64 ra, .int .i64 rb] := Blk.newAt w4 _ rfl
    obtain ⟨khx20, khx21⟩ := hx2.c2
    have lhx2 := hx2.lt
    go_wp2_with fail
    clear khx20 khx21 lhx2
    replace hO := hO.now hA
    replace hN := hN.now hA
    replace hx1 := hx1.now hA
    replace hH := hH.now hA
    replace hx2 := hx2.now hA
    replace hB := hB.trans (hA.mono hB.size)
    clear hA
    generalize (w4.alloc (.cells #[.int .i64 ra, .int .i64 rb] 35)) = wc at *
    generalize w4.heap.size = b3 at *
    refine (spec_StationLoad _ he hp n _ hH.lst).mono ?_
    rintro e w5 ⟨rfl, hB2⟩
    rw [hL]
    clear hL
    replace hO := hO.now hB2
    replace hN := hN.now hB2
    replace hx1 := hx1.now hB2
    replace hH := hH.now hB2
    replace hx2 := hx2.now hB2
    replace hr1 := hr1.now hB2
    replace hB := hB.trans (hB2.mono hB.size)
    clear hB2
    clear hH hx2
    have q1 : (cd != cd) = false := by simp
    have q2 : (tx.toList == tx.toList) = true := by simp
    have q3 : (rc != rc) = false := by simp
    have q4 : (ra == ra) = true := by simp
    have q5 : (rb == rb) = true := by simp
    have hA : Below w5.heap.size w5 (w5.alloc (.cells #[.int .i64 ra, .int .i64 rb] 35)) := (Below.refl _ _).alloc (Nat.le_refl _) _
    have hr2 : Blk (w5.alloc (.cells #[.int .i64 ra, .int .i64 rb] 35)) w5.heap.size 35 #[.int .i64 ra, .int .i64 rb] := Blk.newAt w5 _ rfl
    replace hO := hO.now hA
    replace hN := hN.now hA
    replace hx1 := hx1.now hA
    replace hr1 := hr1.now hA
    replace hB := hB.trans (hA.mono hB.size)
    clear hA
    obtain ⟨kr0, kr1⟩ := hr1.c2
    have lr1 := hr1.lt
    obtain ⟨ks0, ks1⟩ := hr2.c2
    have lr2 := hr2.lt
    by_cases hcd : cd = 0
    · skip
      subst hcd
      obtain ⟨PL, hcomp, hPl, hs1, hs2, htz⟩ := printed_again (ge := ge) (gp := gp) (N := l) (by rw [hPH.out])
      rw [hPH.out] at hcomp htz
      dsimp only at hcomp htz
      have hcH := Lib.hid hcomp
      have hs1H := Lib.hid hs1
      have hs2H := Lib.hid hs2
      have hPlH := Lib.hid hPl
      clear hcomp hs1 hs2 hPl hPH
      go_wp2_with fail
      clear kr0 kr1 ks0 ks1 lr1 lr2
      generalize w5.alloc (.cells #[.int .i64 ra, .int .i64 rb] 35) = wd at *
      generalize w5.heap.size = b4 at *
      refine (impl_CompileText tx _ (by omega) (hE.now hB)).mono ?_
      rintro e w6 ⟨A6, B6, rfl, hX, hM, hB2⟩
      rw [hcH.out] at hX hM ⊢
      dsimp only at hX hM ⊢
      obtain ⟨XA, xc, rfl⟩ := hX.shape
      obtain ⟨MA, mc, rfl⟩ := hM.shape
      replace hO := hO.now hB2
      replace hN := hN.now hB2
      replace hx1 := hx1.now hB2
      replace hr1 := hr1.now hB2
      replace hr2 := hr2.now hB2
      replace hB := hB.trans (hB2.mono hB.size)
      clear hB2
      clear hr1 hr2
      have hA : Below w6.heap.size w6 (w6.alloc (.cells #[.int .i64 ge, .slice XA PL.length xc] 26)) := (Below.refl _ _).alloc (Nat.le_refl _) _
      have hx3 : Blk (w6.alloc (.cells #[.int .i64 ge, .slice XA PL.length xc] 26)) w6.heap.size 26 #[.int .i64 ge, .slice XA PL.length xc] := Blk.newAt w6 _ rfl
      go_wp2_with fail
      replace hO := hO.now hA
      replace hN := hN.now hA
      replace hx1 := hx1.now hA
      replace hX := hX.now hA
      replace hM := hM.now hA
      replace hB := hB.trans (hA.mono hB.size)
      clear hA
      generalize (w6.alloc (.cells #[.int .i64 ge, .slice XA PL.length xc] 26)) = we at *
      generalize w6.heap.size = b5 at *
      refine (impl_SimplifyGraph _ ge PL _ hX.lst).mono ?_
      rintro e w7 ⟨z7, rfl, hy, hB2⟩
      rw [hs1H.out] at hy ⊢
      dsimp only at hy ⊢
      obtain ⟨YA, yc, rfl⟩ := hy.shape
      replace hO := hO.now hB2
      replace hN := hN.now hB2
      replace hx1 := hx1.now hB2
      replace hX := hX.now hB2
      replace hM := hM.now hB2
      replace hx3 := hx3.now hB2
      replace hB := hB.trans (hB2.mono hB.size)
      clear hB2
      have hA : Below w7.heap.size w7 (w7.alloc (.cells #[.int .i64 ge, .slice YA (simpF gp).length yc] 26)) := (Below.refl _ _).alloc (Nat.le_refl _) _
      have hx4 : Blk (w7.alloc (.cells #[.int .i64 ge, .slice YA (simpF gp).length yc] 26)) w7.heap.size 26 #[.int .i64 ge, .slice YA (simpF gp).length yc] := Blk.newAt w7 _ rfl
      obtain ⟨khx10, khx11⟩ := hx1.c2
      have lhx1 := hx1.lt
      go_wp2_with fail
      clear khx10 khx11 lhx1
      replace hO := hO.now hA
      replace hN := hN.now hA
      replace hx1 := hx1.now hA
      replace hX := hX.now hA
      replace hM := hM.now hA
      replace hx3 := hx3.now hA
      replace hy := hy.now hA
      replace hB := hB.trans (hA.mono hB.size)
      clear hA
      generalize (w7.alloc (.cells #[.int .i64 ge, .slice YA (simpF gp).length yc] 26)) = wf at *
      generalize w7.heap.size = b6 at *
      refine (impl_SimplifyGraph _ ge gp _ hO.lst).mono ?_
      rintro e w8 ⟨z8, rfl, hz, hB2⟩
      rw [hs2H.out] at hz ⊢
      dsimp only at hz ⊢
      obtain ⟨ZA, zc, rfl⟩ := hz.shape
      replace hO := hO.now hB2
      replace hN := hN.now hB2
      replace hx1 := hx1.now hB2
      replace hX := hX.now hB2
      replace hM := hM.now hB2
      replace hx3 := hx3.now hB2
      replace hy := hy.now hB2
      replace hx4 := hx4.now hB2
      replace hB := hB.trans (hB2.mono hB.size)
      clear hB2
      have c2 : ((l.length : Int) != (l.length : Int)) = false := by simp
      have c3 : ((PL.length : Int) != (gp.length : Int)) = false := by rw [hPlH.out]; simp
      have hA : Below w8.heap.size w8 (w8.alloc (.cells #[.int .i64 ge, .slice ZA (simpF gp).length zc] 26)) := (Below.refl _ _).alloc (Nat.le_refl _) _
      have hx5 : Blk (w8.alloc (.cells #[.int .i64 ge, .slice ZA (simpF gp).length zc] 26)) w8.heap.size 26 #[.int .i64 ge, .slice ZA (simpF gp).length zc] := Blk.newAt w8 _ rfl
      obtain ⟨khx30, khx31⟩ := hx3.c2
      have lhx3 := hx3.lt
      obtain ⟨khx10, khx11⟩ := hx1.c2
      have lhx1 := hx1.lt
      go_wp2_with fail
      clear khx30 khx31 lhx3 khx10 khx11 lhx1
      replace hO := hO.now hA
      replace hN := hN.now hA
      replace hx1 := hx1.now hA
      replace hX := hX.now hA
      replace hM := hM.now hA
      replace hx3 := hx3.now hA
      replace hy := hy.now hA
      replace hx4 := hx4.now hA
      replace hz := hz.now hA
      replace hB := hB.trans (hA.mono hB.size)
      clear hA
      generalize (w8.alloc (.cells #[.int .i64 ge, .slice ZA (simpF gp).length zc] 26)) = wg at *
      generalize w8.heap.size = b7 at *
      clear c2 c3
      go_loopw [23] (fun i wr => ∃ k : Nat, k ≤ l.length ∧ i = .int .i64 k ∧ Below wg.heap.size wg wr) (fun i _ => l.length - (intOf i).toNat)
      case atStart => exact ⟨0, Nat.zero_le _, rfl, Below.refl _ _⟩
      case round =>
        obtain ⟨k, hk, rfl, hC⟩ := hrel
        by_cases hlt : k < l.length
        · obtain ⟨c1, o1, hA1, hb1, y0⟩ := strs_at (hM.now hC).lst k hlt
          obtain ⟨c2, o2, hA2, hb2, y1⟩ := strs_at (hN.now hC).lst k hlt
          subst hA1
          subst hA2
          obtain ⟨x, hx⟩ : ∃ x, l[k] = x := ⟨_, rfl⟩
          rw [hx] at y0 y1
          have hxx : (x.toList == x.toList) = true := by simp
          have i1 : (0 : Int) ≤ (k : Int) := by omega
          have i2 : (k : Int) < (l.length : Int) := by omega
          clear hx
          go_wp2_with fail
          go_quiet (fail)
          go_wp2
          go_roundw
          case rel => exact ⟨k + 1, hlt, by go_num, below_drewN hC _⟩
          case measure => simp [intOf]; omega
        · have i2 : ¬ (k : Int) < (l.length : Int) := by omega
          obtain ⟨k0, k1⟩ := (hx4.now hC).c2
          obtain ⟨m0, m1⟩ := (hx5.now hC).c2
          have l4 := (hx4.now hC).lt
          have l5 := (hx5.now hC).lt
          go_wp2_with fail
          refine (laws_likeGraphs9 _ _ ge (simpF gp) _ (hy.now hC).lst (hz.now hC).lst).mono ?_
          rintro e w9 ⟨rfl, hB9⟩
          go_wp2
          go_ret
          exact ⟨rfl, hB.trans ((hC.trans (hB9.mono hC.size)).mono hB.size)⟩
    · have n0 : (cd != 0) = true := by simpa using hcd
      clear hcd hPH
      go_wp2
      go_ret
      exact ⟨rfl, hB⟩
theorem FnPrinted_own : ownKnob Tryz.prog.godebug = none := by kernel_rfl
theorem FnPrinted_laidOut : laidOutB Tryz.prog = true := by kernel_rfl
theorem FnPrinted_env {W : World} (h : laidMetH Tryz.prog Rows.fnPrintedRow.laid W) (hS : W.ShapedOpen Tryz.prog) : Env W := envOf_laid h hS (by kernel_rfl) (by kernel_rfl) (by kernel_rfl) (by kernel_rfl)
set_option maxRecDepth 100000 in
theorem FnPrinted_contract (H : Type) (enc : TypeId × Value → H) (W : World) (base : Nat) (args : Array Value) (ds gs : List (DataW H)) (before : List MemPlace)
    (hval0 : ∀ (j : Nat) t v, Tryz.f3.params[j]? = some t → args[j]? = some v → Value.okWide Tryz.prog W .any base t v)
    (hW : DataW.Whole enc Tryz.prog Tryz.f3.params.toList Rows.fnPrintedSpec.vars false W args.toList ds gs before) (hL : laidMetH Tryz.prog Rows.fnPrintedRow.laid W) (hS : W.ShapedOpen Tryz.prog) :
    Calls Tryz.prog 3 args W fun e W' => ∃ v, e = .returned v ∧ Rows.fnPrintedSpec.post enc Tryz.prog Tryz.f3 false true false false W args v W' := by
  have hval : ∀ (j : Nat) t v, Tryz.f3.params[j]? = some t → args[j]? = some v → Value.okWide Tryz.prog W .any base t v := hval0
  have hW' := hW
  obtain ⟨p, q, hA0, hV, rfl, hfz, hnd⟩ := hW
  have hA : DataW.TrodAll enc Tryz.prog W 0 (fun _ => true) true Tryz.f3.params.toList args.toList ds p := hA0
  rw [Tryz.params3] at hA hval
  obtain ⟨v0, vs0, d0, ds0, p0, q0, hargs, rfl, rfl, h0, r0⟩ := trodAll_cons hA
  obtain ⟨rfl, rfl, rfl⟩ := trodAll_nil r0
  obtain rfl : args = #[v0] := by cases args; simp_all
  obtain ⟨rfl, rfl⟩ := trodVars_none hV
  have k0 := h0
  have lt0 : ∀ x ∈ p0, x.block < W.heap.size := by obtain ⟨m, hm⟩ := k0; exact DataW.trod_lt m _ _ _ hm
  obtain ⟨A0, n0, c0, rfl⟩ := okWide_slice Tryz.underlying22 (hval 0 22 v0 rfl rfl)
  obtain ⟨fuel0, hf0⟩ := h0
  obtain ⟨l0, a0, o0⟩ := open_bytes Tryz.underlying22 Tryz.underlying5 (by kernel_rfl) (show DataW.trod enc Tryz.prog W 0 (fun _ => true) true fuel0 22 [_] = _ by simpa [Value.cells] using hf0)
  clear hA0 hval0
  refine (law_FnPrinted _ _ W a0 o0 (FnPrinted_env hL hS)).mono fun e W' ⟨he, bel⟩ => ?_
  subst he
  exact ⟨_, rfl, _, _, _, [], _, [], hW', trodAll_mk1 (shut_bool Tryz.underlying4 _), (trodAll_cons_mk (Below.trod FnPrinted_laidOut (by kernel_rfl) (of_decide_eq_true (by kernel_rfl)) k0 bel lt0) trodAll_mk0), rfl, bel.frame _, fun h => by cases h⟩
set_option maxRecDepth 100000 in
theorem FnPrinted_met (os : Os) : laidMetH Tryz.prog Rows.fnPrintedRow.laid ((World.laidAll Tryz.prog os Rows.fnPrintedRow.laid).forCall (fun _ _ => 0) ⟨#[], #[.slice none 0 0], []⟩).memory := by
  rw [Go.MakeChecks.laidMetH_plain _ _ _ (by kernel_rfl)]
  exact laidMet_laidAll _ (by kernel_rfl) (by kernel_rfl)
theorem FnPrinted_reads (os : Os) {H : Type} (enc : TypeId × Value → H) : ∃ places, DataW.whole enc Tryz.prog ((World.laidAll Tryz.prog os Rows.fnPrintedRow.laid).forCall (fun _ _ => 0) ⟨#[], #[.slice none 0 0], []⟩).memory Tryz.f3.params.toList Rows.fnPrintedSpec.vars false (#[.slice none 0 0] : Array Value).toList 8 = some ([.nil], [], places) := ⟨[], by kernel_rfl⟩
set_option maxRecDepth 100000 in
theorem FnPrinted_lifted (os : Os) (started : os.Started) (H : Type) (enc : TypeId × Value → H) (F : Stop.Interp) :
    ReturnsInHanded {} Tryz.checked os 3 .any ((OpenSpec.ofChange Rows.fnPrintedSpec).preRow enc Tryz.prog Tryz.f3 Rows.fnPrintedRow.domain false Rows.fnPrintedRow.laid) (((OpenSpec.ofChange Rows.fnPrintedSpec).at F).post enc Tryz.prog Tryz.f3 false true false false) := by
  obtain ⟨places, hx⟩ := FnPrinted_reads os enc
  refine returnsInHanded_of_row (C := Tryz.checked) (s := OpenSpec.ofChange Rows.fnPrintedSpec) FnPrinted_own started (by kernel_rfl) Tryz.func3
    ⟨World.laidAll Tryz.prog os Rows.fnPrintedRow.laid, fun _ _ => 0, ⟨#[], #[.slice none 0 0], []⟩, World.laidAll_os _ _ _, World.shaped_of_ZipB (by kernel_rfl) (by kernel_rfl), rfl, (Input.okWide_of_okWideB (by kernel_rfl)).2,
      OpenSpec.preRow_of_cond 8 hx (by kernel_rfl) (fun k hk => by cases hk) (by kernel_rfl) (FnPrinted_met os), by simp [Assume.holds]⟩ ?_
  intro W base args ds gs before hval hW _ _ _ hL hS _
  exact FnPrinted_contract H enc W base args ds gs before hval hW hL hS
theorem FnPrinted_over : Rows.FnPrintedSaid :=
  OpenClaim.holds_of_cond 3 Tryz.f3 rfl rfl rfl rfl rfl rfl rfl ⟨rfl, rfl, rfl, rfl, rfl⟩ rfl rfl rfl rfl rfl (by kernel_rfl) Tryz.func3 (by kernel_rfl)
    (of_decide_eq_true (by kernel_rfl)) (by unfold Func.isWrapper; first | (rw [if_pos (by decide +kernel)]; kernel_rfl) | (rw [if_neg (by decide +kernel)]; exact ⟨rfl, rfl⟩))
    (fun os started H enc _ F => by rw [OpenClaim.pre_eq_preRow]; exact FnPrinted_lifted os started H enc F)
theorem FnPrinted_plain (f : FuncId) (fn : Func) (hf : Tryz.pinned.checked.prog.funcNamed "loop.example/g00941/laws.FnPrinted" = some f) (hfn : Tryz.pinned.checked.prog.funcs[f]? = some fn) :
    true = Tryz.pinned.checked.prog.looks [] ∧ ∀ (j : Nat) t, fn.params[j]? = some t → Tryz.pinned.checked.prog.wantsStandIn t = false := by
  obtain rfl : f = 3 := Option.some.inj ((show Tryz.prog.funcNamed "loop.example/g00941/laws.FnPrinted" = some 3 by kernel_rfl).symm.trans hf) |>.symm
  obtain rfl : fn = Tryz.f3 := (Option.some.inj (Tryz.func3.symm.trans hfn)).symm
  refine ⟨by kernel_rfl, fun j t ht => ?_⟩
  rw [Tryz.params3] at ht
  obtain rfl : t = 22 := by simpa using Array.mem_of_getElem? ht
  exact (show Tryz.prog.wantsStandIn 22 = false by kernel_rfl)
/-- The given statement: the tied card. -/
theorem FnPrinted_proved : Rows.FnPrintedCardSaid :=
  Claim7.holds_tied_plain_at .later [] _ _ _ _ FnPrinted_over (fun _ h => by cases h) (by kernel_rfl) (fun _ h => by cases h) fnPrinted_row_tie rfl ⟨rfl, rfl⟩ (by kernel_rfl) rfl FnPrinted_plain (by kernel_rfl)
end Go.Proofs.YtcoomogabicfnaaGreatDoor
