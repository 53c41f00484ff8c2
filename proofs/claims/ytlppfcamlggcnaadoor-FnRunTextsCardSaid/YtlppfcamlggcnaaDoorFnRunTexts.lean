/-
  FnRunTexts returns true for every input: a possible run is recovered from its text (the tied card).
  Conditions: none beyond the statement's own.
-/
import Derived.Test.YtlppfcamlggcnaaDoorDrT
import Derived.Test.YtlppfcamlggcnaaDoorReadI
import Derived.Test.YtlppfcamlggcnaaDoorDrF
import Derived.Test.YtlppfcamlggcnaaDoorLikeR
import Derived.Test.YtlppfcamlggcnaaDoorRunIB
import Derived.Test.YtlppfcamlggcnaaDoorAfterP
import Derived.Test.YtlppfcamlggcnaaDoorEnv
namespace Go.Proofs.YtlppfcamlggcnaaDoor
open Go.RowKit Go.ChangeShapes Go.WideShapes Go.ChangeAt Go.Deep
set_option linter.unusedVariables false
set_option linter.unusedSimpArgs false
set_option maxHeartbeats 16000000 in
set_option maxRecDepth 100000 in
theorem law_FnRunTexts (cv : Value) (bs : List Int) (w : World) (a0 : Lst byteCell 1 w w.heap.size cv bs) (o0 : Hid (∀ b ∈ bs, 0 ≤ b ∧ b ≤ 255)) (hE : Env w) :
    Calls Tryd.prog 4 #[cv] w fun e w' => e = .returned (.bool true) ∧ Below w.heap.size w w' := by
  obtain ⟨CA, cc, rfl⟩ := a0.shape
  by_cases hbig : (4096 : Int) < (bs.length : Int)
  · have hq : Hid (decide ((4096 : Int) < (bs.length : Int)) = true) := decide_eq_true hbig
    clear hbig
    go_enter Tryd.func4, Tryd.ntmps4
    go_wp2_with (go_at_call 9; refine (laws_big _ _ _ a0).mono ?_; rintro e w1 ⟨rfl, rfl⟩; rw [hq.out])
    go_ret
    exact ⟨rfl, Below.refl _ _⟩
  · have hq : Hid (decide ((4096 : Int) < (bs.length : Int)) = false) := decide_eq_false hbig
    clear hbig
    go_enter Tryd.func4, Tryd.ntmps4
    go_wp2_with fail
    refine (laws_big _ _ _ a0).mono ?_
    rintro e w1 ⟨rfl, rfl⟩
    rw [hq.out]
    go_wp2_with fail
    refine (spec_DrawRunText _ bs w a0 o0).mono ?_
    rintro e w1 ⟨u, l, rfl, hll, hU, hB⟩
    obtain ⟨UA, uc, rfl⟩ := hU.shape
    go_wp2_with fail
    refine (impl_RunText _ l _ hU.lst (hE.now hB).tab).mono ?_
    rintro e w2 ⟨rfl, hB2⟩
    replace hU := hU.now hB2
    replace hB := hB.trans (hB2.mono hB.size)
    clear hB2
    have a1 := a0.now hB
    obtain ⟨tx, htx⟩ : ∃ tx, runTextF l = tx := ⟨_, rfl⟩
    rw [htx]
    have htx := Lib.hid htx
    go_wp2_with fail
    refine (spec_DrawReadRun _ bs _ a1 o0).mono ?_
    rintro e w3 ⟨s, rfl, hs, hB3⟩
    replace hU := hU.now hB3
    replace hB := hB.trans (hB3.mono hB.size)
    clear hB3 a1
    go_wp2_with fail
    refine (impl_ReadRun s _ (by omega) (hE.now hB)).mono ?_
    rintro e w4 ⟨y, rfl, hY, hB4⟩
    replace hU := hU.now hB4
    replace hB := hB.trans (hB4.mono hB.size)
    clear hB4
    obtain ⟨R, hR⟩ : ∃ R, readF s = R := ⟨_, rfl⟩
    rw [hR] at hY
    rw [hR]
    have hRH := Lib.hid hR
    have hlenR := readF_len s
    rw [hR] at hlenR
    clear hR
    go_wp2_with fail
    refine (spec_ReadRun s _ (by omega)).mono ?_
    rintro e w5 ⟨z, rfl, hZ, hB5⟩
    rw [hRH.out] at hZ ⊢
    replace hU := hU.now hB5
    replace hY := hY.now hB5
    replace hB := hB.trans (hB5.mono hB.size)
    clear hB5
    have a5 := a0.now hB
    go_wp2_with fail
    refine (spec_DrawIsRun _ bs _ a5 o0).mono ?_
    rintro e w6 ⟨ge, gp, v, ou, ol, rfl, hg0, hg1, hglen, holl, hG, hO, hB6⟩
    obtain ⟨A, c, rfl⟩ := hG.shape
    obtain ⟨OA, oc, rfl⟩ := hO.shape
    replace hU := hU.now hB6
    replace hY := hY.now hB6
    replace hZ := hZ.now hB6
    replace hB := hB.trans (hB6.mono hB.size)
    clear hB6 a5
    have hA2 : Below w6.heap.size w6 (w6.alloc (.cells #[.int .i64 ge, .slice A gp.length c] 27)) := (Below.refl _ _).alloc (Nat.le_refl _) _
    have hbox := Blk.newAt w6 (t := 27) (cs := #[.int .i64 ge, .slice A gp.length c]) _ rfl
    go_wp2_with fail
    refine (spec_RunText _ l _ (hU.now hA2).lst).mono ?_
    rintro e w7 ⟨rfl, hB7⟩
    rw [htx.out]
    replace hbox := hbox.now hB7
    replace hB7 := hA2.trans (hB7.mono hA2.size)
    replace hY := hY.now hB7
    replace hZ := hZ.now hB7
    replace hG := hG.now hB7
    replace hO := hO.now hB7
    replace hB := hB.trans (hB7.mono hB.size)
    clear hB7 hA2 hU
    have hsame2 : (tx.toList == tx.toList) = true := by simp
    have hb1 : (R.isSome != R.isSome) = false := by simp
    have hLR := Lib.hid hlenR
    obtain ⟨YA, yc, rfl⟩ := hY.shape
    obtain ⟨ZA, zc, rfl⟩ := hZ.shape
    go_wp2_with fail
    refine (laws_likeRuns9 _ _ _ _ hY.lst hZ.lst).mono ?_
    rintro e w8 ⟨rfl, hB8⟩
    replace hY := hY.now hB8
    replace hG := hG.now hB8
    replace hO := hO.now hB8
    replace hbox := hbox.now hB8
    replace hB := hB.trans (hB8.mono hB.size)
    clear hB8 hZ
    have hcase : (R = none) ∨ ∃ q, R = some q := by cases R; exact .inl rfl; exact .inr ⟨_, rfl⟩
    rcases hcase with hR0 | ⟨q, hR0⟩
    · subst hR0
      clear hb1 hlenR
      obtain ⟨k0, k1⟩ := hbox.c2
      have l0 := hbox.lt
      go_wp2_with fail
      refine (impl_IsRun _ _ _ _ _ _ hG.lst hO.lst).mono ?_
      rintro e w9 ⟨rfl, hB9⟩
      replace hO := hO.now hB9
      replace hB := hB.trans (hB9.mono hB.size)
      clear hB9 hG hbox k0 k1 l0
      obtain ⟨T, hT⟩ : ∃ T, isRunF ge gp ol = T := ⟨_, rfl⟩
      rw [hT]
      have hTH := Lib.hid hT
      clear hT
      cases T with
      | false =>
        go_wp2
        go_ret
        exact ⟨rfl, hB⟩
      | true =>
        have hrd : Hid (readF (runTextF ol) = some ol) := by
          obtain ⟨hr, h5⟩ := isRunF_ok hTH.out
          have hgo : okGraph ge gp = true := by
            have h := hTH.out
            unfold isRunF at h
            simp only [Bool.and_eq_true] at h
            exact h.1.1
          exact text_read hr (okGraph_ev hgo).2 h5
        have hsz := runText_size ol
        go_wp2_with fail
        refine (impl_RunText _ ol _ hO.lst (hE.now hB).tab).mono ?_
        rintro e w10 ⟨rfl, hB10⟩
        replace hO := hO.now hB10
        replace hB := hB.trans (hB10.mono hB.size)
        clear hB10
        generalize runTextF ol = ot at *
        go_wp2_with fail
        refine (impl_ReadRun ot _ (by omega) (hE.now hB)).mono ?_
        rintro e w11 ⟨x, rfl, hX, hB11⟩
        rw [hrd.out] at hX ⊢
        replace hO := hO.now hB11
        replace hB := hB.trans (hB11.mono hB.size)
        clear hB11
        go_wp2_with fail
        refine (laws_likeRuns9 _ _ ol _ hX.lst hO.lst).mono ?_
        rintro e w12 ⟨rfl, hB12⟩
        go_wp2
        go_ret
        exact ⟨rfl, hB.trans (hB12.mono hB.size)⟩
    · subst hR0
      have hq5 : q.length ≤ 500 := readF_500 hRH.out
      have hqs := read_text hRH.out
      have hqi : (q.length : Int) ≤ 500 := by omega
      replace hY : Own Firing.cells 3 87 w8 w3.heap.size (.slice YA q.length yc) q := hY
      clear hb1 hlenR
      simp only [Option.getD_some]
      have hqsH := Lib.hid hqs
      clear hqs hq5
      go_wp2_with fail
      refine (impl_RunText _ q _ hY.lst (hE.now hB).tab).mono ?_
      rintro e w8b ⟨rfl, hB8b⟩
      rw [hqsH.out]
      replace hG := hG.now hB8b
      replace hO := hO.now hB8b
      replace hbox := hbox.now hB8b
      replace hB := hB.trans (hB8b.mono hB.size)
      clear hB8b hY
      obtain ⟨k0, k1⟩ := hbox.c2
      have l0 := hbox.lt
      go_wp2_with fail
      refine (impl_IsRun _ _ _ _ _ _ hG.lst hO.lst).mono ?_
      rintro e w9 ⟨rfl, hB9⟩
      replace hO := hO.now hB9
      replace hB := hB.trans (hB9.mono hB.size)
      clear hB9 hG hbox k0 k1 l0
      obtain ⟨T, hT⟩ : ∃ T, isRunF ge gp ol = T := ⟨_, rfl⟩
      rw [hT]
      have hTH := Lib.hid hT
      clear hT
      cases T with
      | false =>
        go_wp2
        go_ret
        exact ⟨rfl, hB⟩
      | true =>
        have hrd : Hid (readF (runTextF ol) = some ol) := by
          obtain ⟨hr, h5⟩ := isRunF_ok hTH.out
          have hgo : okGraph ge gp = true := by
            have h := hTH.out
            unfold isRunF at h
            simp only [Bool.and_eq_true] at h
            exact h.1.1
          exact text_read hr (okGraph_ev hgo).2 h5
        have hsz := runText_size ol
        go_wp2_with fail
        refine (impl_RunText _ ol _ hO.lst (hE.now hB).tab).mono ?_
        rintro e w10 ⟨rfl, hB10⟩
        replace hO := hO.now hB10
        replace hB := hB.trans (hB10.mono hB.size)
        clear hB10
        generalize runTextF ol = ot at *
        go_wp2_with fail
        refine (impl_ReadRun ot _ (by omega) (hE.now hB)).mono ?_
        rintro e w11 ⟨x, rfl, hX, hB11⟩
        rw [hrd.out] at hX ⊢
        replace hO := hO.now hB11
        replace hB := hB.trans (hB11.mono hB.size)
        clear hB11
        go_wp2_with fail
        refine (laws_likeRuns9 _ _ ol _ hX.lst hO.lst).mono ?_
        rintro e w12 ⟨rfl, hB12⟩
        go_wp2
        go_ret
        exact ⟨rfl, hB.trans (hB12.mono hB.size)⟩
theorem FnRunTexts_own : ownKnob Tryd.prog.godebug = none := by kernel_rfl
theorem FnRunTexts_laidOut : laidOutB Tryd.prog = true := by kernel_rfl
theorem FnRunTexts_env {W : World} (h : laidMetH Tryd.prog Rows.fnRunTextsRow.laid W) (hS : W.ShapedOpen Tryd.prog) : Env W := envOf_laid h hS (by kernel_rfl) (by kernel_rfl) (by kernel_rfl) (by kernel_rfl)
set_option maxRecDepth 100000 in
theorem FnRunTexts_contract (H : Type) (enc : TypeId × Value → H) (W : World) (base : Nat) (args : Array Value) (ds gs : List (DataW H)) (before : List MemPlace)
    (hval0 : ∀ (j : Nat) t v, Tryd.f4.params[j]? = some t → args[j]? = some v → Value.okWide Tryd.prog W .any base t v)
    (hW : DataW.Whole enc Tryd.prog Tryd.f4.params.toList Rows.fnRunTextsSpec.vars false W args.toList ds gs before) (hL : laidMetH Tryd.prog Rows.fnRunTextsRow.laid W) (hS : W.ShapedOpen Tryd.prog) :
    Calls Tryd.prog 4 args W fun e W' => ∃ v, e = .returned v ∧ Rows.fnRunTextsSpec.post enc Tryd.prog Tryd.f4 false true false false W args v W' := by
  have hval : ∀ (j : Nat) t v, Tryd.f4.params[j]? = some t → args[j]? = some v → Value.okWide Tryd.prog W .any base t v := hval0
  have hW' := hW
  obtain ⟨p, q, hA0, hV, rfl, hfz, hnd⟩ := hW
  have hA : DataW.TrodAll enc Tryd.prog W 0 (fun _ => true) true Tryd.f4.params.toList args.toList ds p := hA0
  rw [Tryd.params4] at hA hval
  obtain ⟨v0, vs0, d0, ds0, p0, q0, hargs, rfl, rfl, h0, r0⟩ := trodAll_cons hA
  obtain ⟨rfl, rfl, rfl⟩ := trodAll_nil r0
  obtain rfl : args = #[v0] := by cases args; simp_all
  obtain ⟨rfl, rfl⟩ := trodVars_none hV
  have k0 := h0
  have lt0 : ∀ x ∈ p0, x.block < W.heap.size := by obtain ⟨m, hm⟩ := k0; exact DataW.trod_lt m _ _ _ hm
  obtain ⟨A0, n0, c0, rfl⟩ := okWide_slice Tryd.underlying22 (hval 0 22 v0 rfl rfl)
  obtain ⟨fuel0, hf0⟩ := h0
  obtain ⟨l0, a0, o0⟩ := open_bytes Tryd.underlying22 Tryd.underlying5 (by kernel_rfl) (show DataW.trod enc Tryd.prog W 0 (fun _ => true) true fuel0 22 [_] = _ by simpa [Value.cells] using hf0)
  clear hA0 hval0
  refine (law_FnRunTexts _ _ W a0 o0 (FnRunTexts_env hL hS)).mono fun e W' ⟨he, bel⟩ => ?_
  subst he
  exact ⟨_, rfl, _, _, _, [], _, [], hW', trodAll_mk1 (shut_bool Tryd.underlying4 _), (trodAll_cons_mk (Below.trod FnRunTexts_laidOut (by kernel_rfl) (of_decide_eq_true (by kernel_rfl)) k0 bel lt0) trodAll_mk0), rfl, bel.frame _, fun h => by cases h⟩
set_option maxRecDepth 100000 in
theorem FnRunTexts_met (os : Os) : laidMetH Tryd.prog Rows.fnRunTextsRow.laid ((World.laidAll Tryd.prog os Rows.fnRunTextsRow.laid).forCall (fun _ _ => 0) ⟨#[], #[.slice none 0 0], []⟩).memory := by
  rw [Go.MakeChecks.laidMetH_plain _ _ _ (by kernel_rfl)]
  exact laidMet_laidAll _ (by kernel_rfl) (by kernel_rfl)
theorem FnRunTexts_reads (os : Os) {H : Type} (enc : TypeId × Value → H) : ∃ places, DataW.whole enc Tryd.prog ((World.laidAll Tryd.prog os Rows.fnRunTextsRow.laid).forCall (fun _ _ => 0) ⟨#[], #[.slice none 0 0], []⟩).memory Tryd.f4.params.toList Rows.fnRunTextsSpec.vars false (#[.slice none 0 0] : Array Value).toList 8 = some ([.nil], [], places) := ⟨[], by kernel_rfl⟩
set_option maxRecDepth 100000 in
theorem FnRunTexts_lifted (os : Os) (started : os.Started) (H : Type) (enc : TypeId × Value → H) (F : Stop.Interp) :
    ReturnsInHanded {} Tryd.checked os 4 .any ((OpenSpec.ofChange Rows.fnRunTextsSpec).preRow enc Tryd.prog Tryd.f4 Rows.fnRunTextsRow.domain false Rows.fnRunTextsRow.laid) (((OpenSpec.ofChange Rows.fnRunTextsSpec).at F).post enc Tryd.prog Tryd.f4 false true false false) := by
  obtain ⟨places, hx⟩ := FnRunTexts_reads os enc
  refine returnsInHanded_of_row (C := Tryd.checked) (s := OpenSpec.ofChange Rows.fnRunTextsSpec) FnRunTexts_own started (by kernel_rfl) Tryd.func4
    ⟨World.laidAll Tryd.prog os Rows.fnRunTextsRow.laid, fun _ _ => 0, ⟨#[], #[.slice none 0 0], []⟩, World.laidAll_os _ _ _, World.shaped_of_ZipB (by kernel_rfl) (by kernel_rfl), rfl, (Input.okWide_of_okWideB (by kernel_rfl)).2,
      OpenSpec.preRow_of_cond 8 hx (by kernel_rfl) (fun k hk => by cases hk) (by kernel_rfl) (FnRunTexts_met os), by simp [Assume.holds]⟩ ?_
  intro W base args ds gs before hval hW _ _ _ hL hS _
  exact FnRunTexts_contract H enc W base args ds gs before hval hW hL hS
theorem FnRunTexts_over : Rows.FnRunTextsSaid :=
  OpenClaim.holds_of_cond 4 Tryd.f4 rfl rfl rfl rfl rfl rfl rfl ⟨rfl, rfl, rfl, rfl, rfl⟩ rfl rfl rfl rfl rfl (by kernel_rfl) Tryd.func4 (by kernel_rfl)
    (of_decide_eq_true (by kernel_rfl)) (by unfold Func.isWrapper; first | (rw [if_pos (by decide +kernel)]; kernel_rfl) | (rw [if_neg (by decide +kernel)]; exact ⟨rfl, rfl⟩))
    (fun os started H enc _ F => by rw [OpenClaim.pre_eq_preRow]; exact FnRunTexts_lifted os started H enc F)
theorem FnRunTexts_plain (f : FuncId) (fn : Func) (hf : Tryd.pinned.checked.prog.funcNamed "loop.example/g00941/laws.FnRunTexts" = some f) (hfn : Tryd.pinned.checked.prog.funcs[f]? = some fn) :
    true = Tryd.pinned.checked.prog.looks [] ∧ ∀ (j : Nat) t, fn.params[j]? = some t → Tryd.pinned.checked.prog.wantsStandIn t = false := by
  obtain rfl : f = 4 := Option.some.inj ((show Tryd.prog.funcNamed "loop.example/g00941/laws.FnRunTexts" = some 4 by kernel_rfl).symm.trans hf) |>.symm
  obtain rfl : fn = Tryd.f4 := (Option.some.inj (Tryd.func4.symm.trans hfn)).symm
  refine ⟨by kernel_rfl, fun j t ht => ?_⟩
  rw [Tryd.params4] at ht
  obtain rfl : t = 22 := by simpa using Array.mem_of_getElem? ht
  exact (show Tryd.prog.wantsStandIn 22 = false by kernel_rfl)
/-- The given statement: the tied card. -/
theorem FnRunTexts_proved : Rows.FnRunTextsCardSaid :=
  Claim7.holds_tied_plain_at .later [] _ _ _ _ FnRunTexts_over (fun _ h => by cases h) (by kernel_rfl) (fun _ h => by cases h) fnRunTexts_row_tie rfl ⟨rfl, rfl⟩ (by kernel_rfl) rfl FnRunTexts_plain (by kernel_rfl)
end Go.Proofs.YtlppfcamlggcnaaDoor
