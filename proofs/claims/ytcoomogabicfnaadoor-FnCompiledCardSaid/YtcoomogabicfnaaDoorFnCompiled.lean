/-
  FnCompiled returns true for every input: a line text gives a graph with one name for each event, or a wrong line (the tied card).
  Conditions: none beyond the statement's own.
-/
import Derived.Test.YtcoomogabicfnaaDoorDrU
import Derived.Test.YtcoomogabicfnaaDoorLinU
import Derived.Test.YtcoomogabicfnaaDoorLinC
import Derived.Test.YtcoomogabicfnaaDoorLikeG
import Derived.Test.YtcoomogabicfnaaDoorEnv
import Derived.Test.YtcoomogabicfnaaDoorOpen
namespace Go.Proofs.YtcoomogabicfnaaDoor
open Go.RowKit Go.ChangeShapes Go.WideShapes Go.ChangeAt Go.Deep
set_option linter.unusedVariables false
set_option linter.unusedSimpArgs false
theorem named_at {l : List ByteArray} {s : ByteArray} (h : ¬ findStr l s < 0) : ∃ k, ∃ hk : k < l.length, findStr l s = k ∧ l[k] = s := by
  unfold findStr at h ⊢
  cases hi : l.findIdx? (fun x => x = s) with
  | none => rw [hi] at h; exact absurd (show (-1 : Int) < 0 by omega) h
  | some i =>
    obtain ⟨hk, hx, _⟩ := List.findIdx?_eq_some_iff_getElem.1 hi
    exact ⟨i, hk, rfl, by simpa using hx⟩
theorem named_self {N : List ByteArray} (h : N.Nodup) {k : Nat} (hk : k < N.length) : eventNamed N N[k] = ((k : Int), 0) := by
  have e := findStr_at h hk
  unfold eventNamed
  rw [e, if_neg (by omega)]
set_option maxHeartbeats 16000000 in
set_option maxRecDepth 100000 in
theorem law_FnCompiled (cv : Value) (bs : List Int) (w : World) (a0 : Lst byteCell 1 w w.heap.size cv bs) (o0 : Hid (∀ b ∈ bs, 0 ≤ b ∧ b ≤ 255)) (hE : Env w) :
    Calls Tryd.prog 4 #[cv] w fun e w' => e = .returned (.bool true) ∧ Below w.heap.size w w' := by
  obtain ⟨CA, cc, rfl⟩ := a0.shape
  by_cases hbig : (4096 : Int) < (bs.length : Int)
  · have hq : Hid (decide ((4096 : Int) < (bs.length : Int)) = true) := decide_eq_true hbig
    clear hbig
    go_enter Tryd.func4, Tryd.ntmps4
    go_wp2_with (go_at_call 13; refine (laws_big _ _ _ a0).mono ?_; rintro e w1 ⟨rfl, rfl⟩; rw [hq.out])
    go_ret
    exact ⟨rfl, Below.refl _ _⟩
  · have hq : Hid (decide ((4096 : Int) < (bs.length : Int)) = false) := decide_eq_false hbig
    clear hbig
    go_enter Tryd.func4, Tryd.ntmps4
    go_wp2_with fail
    refine (laws_big _ _ _ a0).mono ?_
    rintro e w1 ⟨rfl, rfl⟩
    rw [hq.out]
    go_wp2_with fail
    refine (spec_DrawCompileText _ bs w a0 o0).mono ?_
    rintro e w1 ⟨s, rfl, hs, hB⟩
    go_wp2_with fail
    refine (impl_CompileText s _ hs (hE.now hB)).mono ?_
    rintro e w2 ⟨A, B, rfl, hY, hN, hB2⟩
    replace hB := hB.trans (hB2.mono hB.size)
    have hlen := compF_len s
    have hok := Lib.hid (fun h => compF_ok (s := s) h)
    have hsp := spec_CompileText s
    generalize compF s = R at *
    obtain ⟨ev, pl, nm, ln, cd⟩ := R
    dsimp only at hY hN hlen hok ⊢
    obtain ⟨PA, pc, rfl⟩ := hY.shape
    obtain ⟨NA, nc, rfl⟩ := hN.shape
    have hlp := hlen.1
    have hln := hlen.2
    clear hlen hB2
    have hZ : Below w2.heap.size w2 (w2.alloc (.cells #[.int .i64 ev, .slice PA pl.length pc] 24)) := (Below.refl _ _).alloc (Nat.le_refl _) _
    have hb0 := Blk.newAt w2 (t := 24) (cs := #[.int .i64 ev, .slice PA pl.length pc]) _ rfl
    replace hY := hY.now hZ
    replace hN := hN.now hZ
    replace hB := hB.trans (hZ.mono hB.size)
    clear hZ
    go_wp2_with fail
    refine (hsp _ hs).mono ?_
    clear hsp
    rintro e w3 ⟨A2, B2, rfl, hY2, hN2, hB3⟩
    replace hY := hY.now hB3
    replace hN := hN.now hB3
    replace hb0 := hb0.now hB3
    replace hB := hB.trans (hB3.mono hB.size)
    clear hB3
    obtain ⟨PA2, pc2, rfl⟩ := hY2.shape
    obtain ⟨NA2, nc2, rfl⟩ := hN2.shape
    have hZ : Below w3.heap.size w3 (w3.alloc (.cells #[.int .i64 ev, .slice PA2 pl.length pc2] 24)) := (Below.refl _ _).alloc (Nat.le_refl _) _
    have hb1 := Blk.newAt w3 (t := 24) (cs := #[.int .i64 ev, .slice PA2 pl.length pc2]) _ rfl
    replace hY := hY.now hZ
    replace hN := hN.now hZ
    replace hY2 := hY2.now hZ
    replace hN2 := hN2.now hZ
    replace hb0 := hb0.now hZ
    replace hB := hB.trans (hZ.mono hB.size)
    clear hZ
    have a1 := a0.now hB
    go_wp2_with fail
    refine (spec_DrawEventNamed _ bs _ a1 o0).mono ?_
    rintro e w4 ⟨u, l, nx, rfl, hll, hU, hB4⟩
    obtain ⟨UA, uc, rfl⟩ := hU.shape
    replace hY := hY.now hB4
    replace hN := hN.now hB4
    replace hY2 := hY2.now hB4
    replace hN2 := hN2.now hB4
    replace hb0 := hb0.now hB4
    replace hb1 := hb1.now hB4
    replace hB := hB.trans (hB4.mono hB.size)
    clear hB4 a1
    obtain ⟨ei, ec, hEN⟩ : ∃ a b, eventNamed l nx = (a, b) := ⟨_, _, rfl⟩
    have hENH := Lib.hid hEN
    clear hEN
    go_wp2_with fail
    refine (impl_EventNamed _ l nx _ hU.lst).mono ?_
    rintro e w5 ⟨rfl, hB5⟩
    rw [hENH.out]
    replace hY := hY.now hB5
    replace hN := hN.now hB5
    replace hN2 := hN2.now hB5
    replace hb0 := hb0.now hB5
    replace hU := hU.now hB5
    replace hY2 := hY2.now hB5
    replace hb1 := hb1.now hB5
    replace hB := hB.trans (hB5.mono hB.size)
    clear hB5
    go_wp2_with fail
    refine (spec_EventNamed _ l nx _ hU.lst).mono ?_
    rintro e w6 ⟨rfl, hB6⟩
    rw [hENH.out]
    replace hY := hY.now hB6
    replace hN := hN.now hB6
    replace hN2 := hN2.now hB6
    replace hb0 := hb0.now hB6
    replace hU := hU.now hB6
    replace hY2 := hY2.now hB6
    replace hb1 := hb1.now hB6
    replace hB := hB.trans (hB6.mono hB.size)
    clear hB6
    have a1 := a0.now hB
    go_wp2_with fail
    refine (spec_DrawIsEventName _ bs _ a1 o0).mono ?_
    rintro e w7 ⟨t2, rfl, ht2, hB7⟩
    replace hY := hY.now hB7
    replace hN := hN.now hB7
    replace hN2 := hN2.now hB7
    replace hb0 := hb0.now hB7
    replace hU := hU.now hB7
    replace hY2 := hY2.now hB7
    replace hb1 := hb1.now hB7
    replace hB := hB.trans (hB7.mono hB.size)
    clear hB7
    clear a1
    have ht2H : Hid (t2.size ≤ maxLen) := by show _ ≤ _; unfold maxLen; omega
    have c0 : (cd != cd) = false := by simp
    have c1 : (ln != ln) = false := by simp
    have c2 : ((nm.length : Int) != (nm.length : Int)) = false := by simp
    have c3 : (ec != ec) = false := by simp
    have c4 : (ei != ei) = false := by simp
    have c5 : (nameOk t2 != nameOk t2) = false := by simp
    obtain ⟨k0, k1⟩ := hb0.c2
    obtain ⟨m0, m1⟩ := hb1.c2
    have l0 := hb0.lt
    have l1 := hb1.lt
    go_wp2_with fail
    refine (laws_likeGraphs9 _ _ ev pl _ hY.lst hY2.lst).mono ?_
    rintro e w8 ⟨rfl, hB8⟩
    replace hY := hY.now hB8
    replace hN := hN.now hB8
    replace hN2 := hN2.now hB8
    replace hb0 := hb0.now hB8
    replace hU := hU.now hB8
    replace hY2 := hY2.now hB8
    replace hb1 := hb1.now hB8
    replace hB := hB.trans (hB8.mono hB.size)
    clear hB8
    clear hY2 hb1 k0 k1 m0 m1 l0 l1
    go_wp2_with fail
    refine (impl_IsEventName t2 _ ht2H).mono ?_
    rintro e w9 ⟨rfl, hB9⟩
    replace hY := hY.now hB9
    replace hN := hN.now hB9
    replace hN2 := hN2.now hB9
    replace hb0 := hb0.now hB9
    replace hU := hU.now hB9
    replace hB := hB.trans (hB9.mono hB.size)
    clear hB9
    go_wp2_with fail
    refine (spec_IsEventName t2 _ ht2H).mono ?_
    rintro e w10 ⟨rfl, hB10⟩
    replace hY := hY.now hB10
    replace hN := hN.now hB10
    replace hN2 := hN2.now hB10
    replace hb0 := hb0.now hB10
    replace hU := hU.now hB10
    replace hB := hB.trans (hB10.mono hB.size)
    clear hB10
    generalize nameOk t2 = NT at *
    by_cases hf : findStr l nx < 0
    · have he : (ei, ec) = ((0 : Int), (4 : Int)) := hENH.out.symm.trans (if_pos hf)
      injection he with he1 he2
      subst he1 he2
      clear hf hENH hU
      go_wp2
      go_loopw [19] (fun i wr => ∃ k : Nat, k ≤ nm.length ∧ i = .int .i64 k ∧ Below w10.heap.size w10 wr) (fun i _ => nm.length - (intOf i).toNat)
      case atStart => exact ⟨0, Nat.zero_le _, rfl, Below.refl _ _⟩
      case round =>
        obtain ⟨k, hk, rfl, hC⟩ := hrel
        by_cases hlt : k < nm.length
        · obtain ⟨b1, o1, hA1, hb1, y0⟩ := strs_at (hN.now hC).lst k hlt
          obtain ⟨b2, o2, hA2, hb2, y1⟩ := strs_at (hN2.now hC).lst k hlt
          subst hA1
          subst hA2
          obtain ⟨x, hx⟩ : ∃ x, nm[k] = x := ⟨_, rfl⟩
          rw [hx] at y0 y1
          have hxx : (x.toList == x.toList) = true := by simp
          have i1 : (0 : Int) ≤ (k : Int) := by omega
          have i2 : (k : Int) < (nm.length : Int) := by omega
          clear hx
          go_wp2_with fail
          go_quiet (fail)
          go_wp2
          go_roundw
          case rel => exact ⟨k + 1, hlt, by go_num, below_drewN hC _⟩
          case measure => simp [intOf]; omega
        · have i2 : ¬ (k : Int) < (nm.length : Int) := by omega
          obtain ⟨wv, hwv⟩ : ∃ wv : World, wv = wr := ⟨_, rfl⟩
          subst hwv
          replace hY := hY.now hC
          replace hN := hN.now hC
          replace hb0 := hb0.now hC
          replace hB := hB.trans (hC.mono hB.size)
          clear hC hN2
          by_cases hcd : cd = 0
          · subst hcd
            obtain ⟨hl0, hev, hg, hnd, -⟩ := hok.out rfl
            subst hl0 hev
            have hgH := Lib.hid hg
            have hndH := Lib.hid hnd
            clear hok hg hnd
            go_wp2
            go_loopw [20, 21, 22] (fun i _ _ wr => ∃ j : Nat, j ≤ nm.length ∧ i = .int .i64 j ∧ Below wv.heap.size wv wr) (fun i _ _ _ => nm.length - (intOf i).toNat)
            case atStart => exact ⟨0, Nat.zero_le _, rfl, Below.refl _ _⟩
            case round =>
              obtain ⟨q, hq, rfl, hC⟩ := hrel
              have hbr := hb0.now hC
              obtain ⟨k0, k1⟩ := hbr.c2
              have l0 := hbr.lt
              by_cases hlt2 : q < nm.length
              · obtain ⟨b1, o1, hA1, hb1, y0⟩ := strs_at (hN.now hC).lst q hlt2
                subst hA1
                have hself := Lib.hid (named_self hndH.out hlt2)
                obtain ⟨x, hx⟩ : ∃ x, nm[q] = x := ⟨_, rfl⟩
                rw [hx] at y0 hself
                clear hx
                have i3 : (0 : Int) ≤ (q : Int) := by omega
                have i4 : (q : Int) < (nm.length : Int) := by omega
                have i5 : ((q : Int) != (q : Int)) = false := by simp
                go_wp2_with fail
                refine (impl_EventNamed _ nm x _ (hN.now hC).lst).mono ?_
                rintro e w11 ⟨rfl, hB11⟩
                rw [hself.out]
                go_wp2
                go_roundw
                case rel => exact ⟨q + 1, hlt2, by go_num, hC.trans (hB11.mono hC.size)⟩
                case measure => simp [intOf]; omega
              · have i4 : ¬ (q : Int) < (nm.length : Int) := by omega
                go_wp2_with fail
                refine (impl_IsEventGraph _ _ pl _ (hY.now hC).lst).mono ?_
                rintro e w11 ⟨rfl, hB11⟩
                rw [hgH.out]
                have hbr := hbr.now hB11
                obtain ⟨k0, k1⟩ := hbr.c2
                have l0 := hbr.lt
                have i6 : ((nm.length : Int) == (nm.length : Int)) = true := by simp
                go_wp2
                go_ret
                exact ⟨rfl, hB.trans ((hC.trans (hB11.mono hC.size)).mono hB.size)⟩
          · have n0 : (cd != 0) = true := by simpa using hcd
            clear hcd hok
            go_wp2
            go_ret
            exact ⟨rfl, hB⟩
    · obtain ⟨j, hj, hfj, hlj⟩ := named_at hf
      have he : (ei, ec) = ((j : Int), (0 : Int)) := hENH.out.symm.trans ((if_neg hf).trans (by rw [hfj]))
      injection he with he1 he2
      subst he1 he2
      obtain ⟨ub, uo, hua, hub, y0⟩ := strs_at hU.lst j hj
      rw [hlj] at y0
      subst hua
      have j1 : (0 : Int) ≤ (j : Int) := by omega
      have j2 : (j : Int) < (l.length : Int) := by omega
      have j3 : (nx.toList == nx.toList) = true := by simp
      clear hf hENH hfj hlj
      go_wp2
      clear y0 hU
      go_loopw [19] (fun i wr => ∃ k : Nat, k ≤ nm.length ∧ i = .int .i64 k ∧ Below w10.heap.size w10 wr) (fun i _ => nm.length - (intOf i).toNat)
      case atStart => exact ⟨0, Nat.zero_le _, rfl, Below.refl _ _⟩
      case round =>
        obtain ⟨k, hk, rfl, hC⟩ := hrel
        by_cases hlt : k < nm.length
        · obtain ⟨b1, o1, hA1, hb1, y0⟩ := strs_at (hN.now hC).lst k hlt
          obtain ⟨b2, o2, hA2, hb2, y1⟩ := strs_at (hN2.now hC).lst k hlt
          subst hA1
          subst hA2
          obtain ⟨x, hx⟩ : ∃ x, nm[k] = x := ⟨_, rfl⟩
          rw [hx] at y0 y1
          have hxx : (x.toList == x.toList) = true := by simp
          have i1 : (0 : Int) ≤ (k : Int) := by omega
          have i2 : (k : Int) < (nm.length : Int) := by omega
          clear hx
          go_wp2_with fail
          go_quiet (fail)
          go_wp2
          go_roundw
          case rel => exact ⟨k + 1, hlt, by go_num, below_drewN hC _⟩
          case measure => simp [intOf]; omega
        · have i2 : ¬ (k : Int) < (nm.length : Int) := by omega
          obtain ⟨wv, hwv⟩ : ∃ wv : World, wv = wr := ⟨_, rfl⟩
          subst hwv
          replace hY := hY.now hC
          replace hN := hN.now hC
          replace hb0 := hb0.now hC
          replace hB := hB.trans (hC.mono hB.size)
          clear hC hN2
          by_cases hcd : cd = 0
          · subst hcd
            obtain ⟨hl0, hev, hg, hnd, -⟩ := hok.out rfl
            subst hl0 hev
            have hgH := Lib.hid hg
            have hndH := Lib.hid hnd
            clear hok hg hnd
            go_wp2
            go_loopw [20, 21, 22] (fun i _ _ wr => ∃ j : Nat, j ≤ nm.length ∧ i = .int .i64 j ∧ Below wv.heap.size wv wr) (fun i _ _ _ => nm.length - (intOf i).toNat)
            case atStart => exact ⟨0, Nat.zero_le _, rfl, Below.refl _ _⟩
            case round =>
              obtain ⟨q, hq, rfl, hC⟩ := hrel
              have hbr := hb0.now hC
              obtain ⟨k0, k1⟩ := hbr.c2
              have l0 := hbr.lt
              by_cases hlt2 : q < nm.length
              · obtain ⟨b1, o1, hA1, hb1, y0⟩ := strs_at (hN.now hC).lst q hlt2
                subst hA1
                have hself := Lib.hid (named_self hndH.out hlt2)
                obtain ⟨x, hx⟩ : ∃ x, nm[q] = x := ⟨_, rfl⟩
                rw [hx] at y0 hself
                clear hx
                have i3 : (0 : Int) ≤ (q : Int) := by omega
                have i4 : (q : Int) < (nm.length : Int) := by omega
                have i5 : ((q : Int) != (q : Int)) = false := by simp
                go_wp2_with fail
                refine (impl_EventNamed _ nm x _ (hN.now hC).lst).mono ?_
                rintro e w11 ⟨rfl, hB11⟩
                rw [hself.out]
                go_wp2
                go_roundw
                case rel => exact ⟨q + 1, hlt2, by go_num, hC.trans (hB11.mono hC.size)⟩
                case measure => simp [intOf]; omega
              · have i4 : ¬ (q : Int) < (nm.length : Int) := by omega
                go_wp2_with fail
                refine (impl_IsEventGraph _ _ pl _ (hY.now hC).lst).mono ?_
                rintro e w11 ⟨rfl, hB11⟩
                rw [hgH.out]
                have hbr := hbr.now hB11
                obtain ⟨k0, k1⟩ := hbr.c2
                have l0 := hbr.lt
                have i6 : ((nm.length : Int) == (nm.length : Int)) = true := by simp
                go_wp2
                go_ret
                exact ⟨rfl, hB.trans ((hC.trans (hB11.mono hC.size)).mono hB.size)⟩
          · have n0 : (cd != 0) = true := by simpa using hcd
            clear hcd hok
            go_wp2
            go_ret
            exact ⟨rfl, hB⟩
theorem FnCompiled_own : ownKnob Tryd.prog.godebug = none := by kernel_rfl
theorem FnCompiled_laidOut : laidOutB Tryd.prog = true := by kernel_rfl
theorem FnCompiled_env {W : World} (h : laidMetH Tryd.prog Rows.fnCompiledRow.laid W) (hS : W.ShapedOpen Tryd.prog) : Env W := envOf_laid h hS (by kernel_rfl) (by kernel_rfl) (by kernel_rfl) (by kernel_rfl)
set_option maxRecDepth 100000 in
theorem FnCompiled_contract (H : Type) (enc : TypeId × Value → H) (W : World) (base : Nat) (args : Array Value) (ds gs : List (DataW H)) (before : List MemPlace)
    (hval0 : ∀ (j : Nat) t v, Tryd.f4.params[j]? = some t → args[j]? = some v → Value.okWide Tryd.prog W .any base t v)
    (hW : DataW.Whole enc Tryd.prog Tryd.f4.params.toList Rows.fnCompiledSpec.vars false W args.toList ds gs before) (hL : laidMetH Tryd.prog Rows.fnCompiledRow.laid W) (hS : W.ShapedOpen Tryd.prog) :
    Calls Tryd.prog 4 args W fun e W' => ∃ v, e = .returned v ∧ Rows.fnCompiledSpec.post enc Tryd.prog Tryd.f4 false true false false W args v W' := by
  have hval : ∀ (j : Nat) t v, Tryd.f4.params[j]? = some t → args[j]? = some v → Value.okWide Tryd.prog W .any base t v := hval0
  have hW' := hW
  obtain ⟨p, q, hA0, hV, rfl, hfz, hnd⟩ := hW
  have hA : DataW.TrodAll enc Tryd.prog W 0 (fun _ => true) true Tryd.f4.params.toList args.toList ds p := hA0
  rw [Tryd.params4] at hA hval
  obtain ⟨v0, vs0, d0, ds0, p0, q0, hargs, rfl, rfl, h0, r0⟩ := trodAll_cons hA
  obtain ⟨rfl, rfl, rfl⟩ := trodAll_nil r0
  obtain rfl : args = #[v0] := by cases args; simp_all
  obtain ⟨rfl, rfl⟩ := trodVars_none hV
  have k0 := h0
  have lt0 : ∀ x ∈ p0, x.block < W.heap.size := by obtain ⟨m, hm⟩ := k0; exact DataW.trod_lt m _ _ _ hm
  obtain ⟨A0, n0, c0, rfl⟩ := okWide_slice Tryd.underlying33 (hval 0 33 v0 rfl rfl)
  obtain ⟨fuel0, hf0⟩ := h0
  obtain ⟨l0, a0, o0⟩ := open_bytes Tryd.underlying33 Tryd.underlying5 (by kernel_rfl) (show DataW.trod enc Tryd.prog W 0 (fun _ => true) true fuel0 33 [_] = _ by simpa [Value.cells] using hf0)
  clear hA0 hval0
  refine (law_FnCompiled _ _ W a0 o0 (FnCompiled_env hL hS)).mono fun e W' ⟨he, bel⟩ => ?_
  subst he
  exact ⟨_, rfl, _, _, _, [], _, [], hW', trodAll_mk1 (shut_bool Tryd.underlying4 _), (trodAll_cons_mk (Below.trod FnCompiled_laidOut (by kernel_rfl) (of_decide_eq_true (by kernel_rfl)) k0 bel lt0) trodAll_mk0), rfl, bel.frame _, fun h => by cases h⟩
set_option maxRecDepth 100000 in
theorem FnCompiled_met (os : Os) : laidMetH Tryd.prog Rows.fnCompiledRow.laid ((World.laidAll Tryd.prog os Rows.fnCompiledRow.laid).forCall (fun _ _ => 0) ⟨#[], #[.slice none 0 0], []⟩).memory := by
  rw [Go.MakeChecks.laidMetH_plain _ _ _ (by kernel_rfl)]
  exact laidMet_laidAll _ (by kernel_rfl) (by kernel_rfl)
theorem FnCompiled_reads (os : Os) {H : Type} (enc : TypeId × Value → H) : ∃ places, DataW.whole enc Tryd.prog ((World.laidAll Tryd.prog os Rows.fnCompiledRow.laid).forCall (fun _ _ => 0) ⟨#[], #[.slice none 0 0], []⟩).memory Tryd.f4.params.toList Rows.fnCompiledSpec.vars false (#[.slice none 0 0] : Array Value).toList 8 = some ([.nil], [], places) := ⟨[], by kernel_rfl⟩
set_option maxRecDepth 100000 in
theorem FnCompiled_lifted (os : Os) (started : os.Started) (H : Type) (enc : TypeId × Value → H) (F : Stop.Interp) :
    ReturnsInHanded {} Tryd.checked os 4 .any ((OpenSpec.ofChange Rows.fnCompiledSpec).preRow enc Tryd.prog Tryd.f4 Rows.fnCompiledRow.domain false Rows.fnCompiledRow.laid) (((OpenSpec.ofChange Rows.fnCompiledSpec).at F).post enc Tryd.prog Tryd.f4 false true false false) := by
  obtain ⟨places, hx⟩ := FnCompiled_reads os enc
  refine returnsInHanded_of_row (C := Tryd.checked) (s := OpenSpec.ofChange Rows.fnCompiledSpec) FnCompiled_own started (by kernel_rfl) Tryd.func4
    ⟨World.laidAll Tryd.prog os Rows.fnCompiledRow.laid, fun _ _ => 0, ⟨#[], #[.slice none 0 0], []⟩, World.laidAll_os _ _ _, World.shaped_of_ZipB (by kernel_rfl) (by kernel_rfl), rfl, (Input.okWide_of_okWideB (by kernel_rfl)).2,
      OpenSpec.preRow_of_cond 8 hx (by kernel_rfl) (fun k hk => by cases hk) (by kernel_rfl) (FnCompiled_met os), by simp [Assume.holds]⟩ ?_
  intro W base args ds gs before hval hW _ _ _ hL hS _
  exact FnCompiled_contract H enc W base args ds gs before hval hW hL hS
theorem FnCompiled_over : Rows.FnCompiledSaid :=
  OpenClaim.holds_of_cond 4 Tryd.f4 rfl rfl rfl rfl rfl rfl rfl ⟨rfl, rfl, rfl, rfl, rfl⟩ rfl rfl rfl rfl rfl (by kernel_rfl) Tryd.func4 (by kernel_rfl)
    (of_decide_eq_true (by kernel_rfl)) (by unfold Func.isWrapper; first | (rw [if_pos (by decide +kernel)]; kernel_rfl) | (rw [if_neg (by decide +kernel)]; exact ⟨rfl, rfl⟩))
    (fun os started H enc _ F => by rw [OpenClaim.pre_eq_preRow]; exact FnCompiled_lifted os started H enc F)
theorem FnCompiled_plain (f : FuncId) (fn : Func) (hf : Tryd.pinned.checked.prog.funcNamed "loop.example/g00941/laws.FnCompiled" = some f) (hfn : Tryd.pinned.checked.prog.funcs[f]? = some fn) :
    true = Tryd.pinned.checked.prog.looks [] ∧ ∀ (j : Nat) t, fn.params[j]? = some t → Tryd.pinned.checked.prog.wantsStandIn t = false := by
  obtain rfl : f = 4 := Option.some.inj ((show Tryd.prog.funcNamed "loop.example/g00941/laws.FnCompiled" = some 4 by kernel_rfl).symm.trans hf) |>.symm
  obtain rfl : fn = Tryd.f4 := (Option.some.inj (Tryd.func4.symm.trans hfn)).symm
  refine ⟨by kernel_rfl, fun j t ht => ?_⟩
  rw [Tryd.params4] at ht
  obtain rfl : t = 33 := by simpa using Array.mem_of_getElem? ht
  exact (show Tryd.prog.wantsStandIn 33 = false by kernel_rfl)
/-- The given statement: the tied card. -/
theorem FnCompiled_proved : Rows.FnCompiledCardSaid :=
  Claim7.holds_tied_plain_at .later [] _ _ _ _ FnCompiled_over (fun _ h => by cases h) (by kernel_rfl) (fun _ h => by cases h) fnCompiled_row_tie rfl ⟨rfl, rfl⟩ (by kernel_rfl) rfl FnCompiled_plain (by kernel_rfl)
end Go.Proofs.YtcoomogabicfnaaDoor
