/-
  FnExactRunText: the program's RunText returns what the reference's returns, for all arguments (the tied card). No condition.
-/
import Derived.Test.YtlppfcamlggcnaaDoorTxtS
import Derived.Test.YtlppfcamlggcnaaDoorEqs
import Derived.Test.YtlppfcamlggcnaaDoorDoor
namespace Go.Proofs.YtlppfcamlggcnaaDoor
open Go.ChangeShapes Go.WideShapes Go.ChangeAt Go.RowKit
set_option linter.unusedVariables false
set_option linter.unusedSimpArgs false
set_option maxHeartbeats 8000000 in
set_option maxRecDepth 100000 in
theorem law_RunText (v : Value) (l : List Firing) (w : World) (a0 : Lst Firing.cells 3 w w.heap.size v l) (o0 : Hid (∀ x ∈ l, x.ok)) (hT : TabOf w) :
    Calls Tryd.prog 5 #[v] w fun e w' => e = .returned (.bool true) ∧ Below w.heap.size w w' := by
  obtain ⟨A, c, rfl⟩ := a0.shape
  by_cases hn : (1048576 : Int) < (l.length : Int)
  · have hs := laws_szFiringS _ _ l 1048576 w a0 (by omega) (by omega)
    rw [if_pos hn] at hs
    clear hn
    go_enter Tryd.func5, Tryd.ntmps5
    go_wp2_with fail
    refine hs.mono ?_
    rintro e w1 ⟨rfl, rfl⟩
    go_wp2
    go_ret
    exact ⟨rfl, Below.refl _ _⟩
  · have hs := laws_szFiringS _ _ l 1048576 w a0 (by omega) (by omega)
    rw [if_neg hn] at hs
    have hl : l.length ≤ 1048576 := by omega
    have i1 : ¬ (1048576 : Int) - l.length < 0 := by omega
    clear hn
    go_enter Tryd.func5, Tryd.ntmps5
    go_wp2_with fail
    refine hs.mono ?_
    rintro e w1 ⟨rfl, rfl⟩
    clear hs
    go_wp2_with fail
    refine (laws_toFiringS _ l _ a0 hl).mono ?_
    rintro e w2 ⟨z, rfl, hz, hB⟩
    go_wp2_with fail
    refine (spec_RunText _ l _ hz.lst).mono ?_
    rintro e w3 ⟨rfl, hB2⟩
    replace hB := hB.trans (hB2.mono hB.size)
    clear hB2 hz
    have a3 := a0.now hB
    go_wp2_with fail
    refine (laws_toFiringS _ l _ a3 hl).mono ?_
    rintro e w4 ⟨y, rfl, hy, hB2⟩
    replace hB := hB.trans (hB2.mono hB.size)
    clear hB2 a3
    obtain ⟨Y, cy, rfl⟩ := hy.shape
    go_wp2_with fail
    refine (impl_RunText _ l _ hy.lst (hT.now hB)).mono ?_
    rintro e w5 ⟨rfl, hB2⟩
    replace hB := hB.trans (hB2.mono hB.size)
    replace hy := hy.now hB2
    clear hB2
    have a5 := a0.now hB
    generalize runTextF l = tx
    go_wp2_with fail
    refine (laws_toFiringS _ l _ a5 hl).mono ?_
    rintro e w6 ⟨x, rfl, hx, hB2⟩
    replace hB := hB.trans (hB2.mono hB.size)
    replace hy := hy.now hB2
    clear hB2 a5
    go_wp2_with fail
    refine (laws_eqFiringS _ _ l l _ hy.lst hx.lst).mono ?_
    rintro e w7 ⟨rfl, hB2⟩
    replace hB := hB.trans (hB2.mono hB.size)
    rw [show decide (l = l) = true from decide_eq_true rfl]
    go_wp2
    go_ret
    exact ⟨rfl, hB⟩
theorem RunText_own : ownKnob Tryd.prog.godebug = none := by kernel_rfl
theorem RunText_laidOut : laidOutB Tryd.prog = true := by kernel_rfl
theorem RunText_env {W : World} (h : laidMetH Tryd.prog Rows.fnExactRunTextRow.laid W) (hS : W.ShapedOpen Tryd.prog) : TabOf W := tabOf_laid h hS (by kernel_rfl) (by kernel_rfl)
set_option maxRecDepth 100000 in
theorem RunText_contract (H : Type) (enc : TypeId × Value → H) (W : World) (base : Nat) (args : Array Value) (ds gs : List (DataW H)) (before : List MemPlace)
    (hval0 : ∀ (j : Nat) t v, Tryd.f5.params[j]? = some t → args[j]? = some v → Value.okWide Tryd.prog W .any base t v)
    (hW : DataW.Whole enc Tryd.prog Tryd.f5.params.toList Rows.fnExactRunTextSpec.vars false W args.toList ds gs before) (hL : laidMetH Tryd.prog Rows.fnExactRunTextRow.laid W) (hS : W.ShapedOpen Tryd.prog) :
    Calls Tryd.prog 5 args W fun e W' => ∃ v, e = .returned v ∧ Rows.fnExactRunTextSpec.post enc Tryd.prog Tryd.f5 false true false false W args v W' := by
  have hval : ∀ (j : Nat) t v, Tryd.f5.params[j]? = some t → args[j]? = some v → Value.okWide Tryd.prog W .any base t v := hval0
  have hW' := hW
  obtain ⟨p, q, hA0, hV, rfl, hfz, hnd⟩ := hW
  have hA : DataW.TrodAll enc Tryd.prog W 0 (fun _ => true) true Tryd.f5.params.toList args.toList ds p := hA0
  rw [Tryd.params5] at hA hval
  obtain ⟨v0, vs0, d0, ds0, p0, q0, hargs, rfl, rfl, h0, r0⟩ := trodAll_cons hA
  obtain ⟨rfl, rfl, rfl⟩ := trodAll_nil r0
  obtain rfl : args = #[v0] := by cases args; simp_all
  obtain ⟨rfl, rfl⟩ := trodVars_none hV
  have k0 := h0
  have lt0 : ∀ x ∈ p0, x.block < W.heap.size := by obtain ⟨m, hm⟩ := k0; exact DataW.trod_lt m _ _ _ hm
  obtain ⟨A0, n0, c0, rfl⟩ := okWide_slice Tryd.underlying47 (hval 0 47 v0 rfl rfl)
  obtain ⟨fuel0, hf0⟩ := h0
  obtain ⟨len0, z0, hR0⟩ := open_structs Tryd.underlying47 Tryd.underlying99 (by kernel_rfl) (by kernel_rfl) (by decide) (by intro j f hj; match j, hj with | 0, hj => (injection hj with hj; subst hj; exact Tryd.underlying2) | 1, hj => (injection hj with hj; subst hj; exact Tryd.underlying2) | 2, hj => (injection hj with hj; subst hj; exact Tryd.underlying2) | n + 3, hj => simp at hj) (by simpa [Value.cells] using hf0)
  have a0 := rows_lst Firing.cells Firing.cells_len (fun i => ⟨z0 i 0, z0 i 1, z0 i 2⟩) (by intro i j hj; match j, hj with | 0, _ => rfl | 1, _ => rfl | 2, _ => rfl | n + 3, hj => omega) hR0
  have o0 : Hid (∀ x ∈ (List.range len0).map fun i => (⟨z0 i 0, z0 i 1, z0 i 2⟩ : Firing), x.ok) := by
    intro x hx
    obtain ⟨i, hi, rfl⟩ := List.mem_map.1 hx
    have hi := List.mem_range.1 hi
    exact ⟨hR0.2.2 i 0 hi (by decide), hR0.2.2 i 1 hi (by decide), hR0.2.2 i 2 hi (by decide)⟩
  clear hA0 hval0
  refine (law_RunText _ _ W a0 o0 (RunText_env hL hS)).mono fun e W' ⟨he, bel⟩ => ?_
  subst he
  exact ⟨_, rfl, _, _, _, [], _, [], hW', trodAll_mk1 (shut_bool Tryd.underlying4 _), (trodAll_cons_mk (Below.trod RunText_laidOut (by kernel_rfl) (of_decide_eq_true (by kernel_rfl)) k0 bel lt0) trodAll_mk0), rfl, bel.frame _, fun h => by cases h⟩
set_option maxRecDepth 100000 in
theorem RunText_met (os : Os) : laidMetH Tryd.prog Rows.fnExactRunTextRow.laid ((World.laidAll Tryd.prog os Rows.fnExactRunTextRow.laid).forCall (fun _ _ => 0) ⟨#[], #[.slice none 0 0], []⟩).memory := by
  rw [Go.MakeChecks.laidMetH_plain _ _ _ (by kernel_rfl)]
  exact laidMet_laidAll _ (by kernel_rfl) (by kernel_rfl)
theorem RunText_reads (os : Os) {H : Type} (enc : TypeId × Value → H) : ∃ places, DataW.whole enc Tryd.prog ((World.laidAll Tryd.prog os Rows.fnExactRunTextRow.laid).forCall (fun _ _ => 0) ⟨#[], #[.slice none 0 0], []⟩).memory Tryd.f5.params.toList Rows.fnExactRunTextSpec.vars false (#[.slice none 0 0] : Array Value).toList 8 = some ([.nil], [], places) := ⟨[], by kernel_rfl⟩
set_option maxRecDepth 100000 in
theorem RunText_lifted (os : Os) (started : os.Started) (H : Type) (enc : TypeId × Value → H) (F : Stop.Interp) :
    ReturnsInHanded {} Tryd.checked os 5 .any ((OpenSpec.ofChange Rows.fnExactRunTextSpec).preRow enc Tryd.prog Tryd.f5 Rows.fnExactRunTextRow.domain false Rows.fnExactRunTextRow.laid) (((OpenSpec.ofChange Rows.fnExactRunTextSpec).at F).post enc Tryd.prog Tryd.f5 false true false false) := by
  obtain ⟨places, hx⟩ := RunText_reads os enc
  refine returnsInHanded_of_row (C := Tryd.checked) (s := OpenSpec.ofChange Rows.fnExactRunTextSpec) RunText_own started (by kernel_rfl) Tryd.func5
    ⟨World.laidAll Tryd.prog os Rows.fnExactRunTextRow.laid, fun _ _ => 0, ⟨#[], #[.slice none 0 0], []⟩, World.laidAll_os _ _ _, World.shaped_of_ZipB (by kernel_rfl) (by kernel_rfl), rfl, (Input.okWide_of_okWideB (by kernel_rfl)).2,
      OpenSpec.preRow_of_cond 8 hx (by kernel_rfl) (fun k hk => by cases hk) (by kernel_rfl) (RunText_met os), by simp [Assume.holds]⟩ ?_
  intro W base args ds gs before hval hW _ _ _ hL hS _
  exact RunText_contract H enc W base args ds gs before hval hW hL hS
theorem RunText_over : Rows.FnExactRunTextSaid :=
  OpenClaim.holds_of_cond 5 Tryd.f5 rfl rfl rfl rfl rfl rfl rfl ⟨rfl, rfl, rfl, rfl, rfl⟩ rfl rfl rfl rfl rfl (by kernel_rfl) Tryd.func5 (by kernel_rfl)
    (of_decide_eq_true (by kernel_rfl)) (by unfold Func.isWrapper; first | (rw [if_pos (by decide +kernel)]; kernel_rfl) | (rw [if_neg (by decide +kernel)]; exact ⟨rfl, rfl⟩))
    (fun os started H enc _ F => by rw [OpenClaim.pre_eq_preRow]; exact RunText_lifted os started H enc F)
theorem RunText_plain (f : FuncId) (fn : Func) (hf : Tryd.pinned.checked.prog.funcNamed "loop.example/g00941/laws.FnExactRunText" = some f) (hfn : Tryd.pinned.checked.prog.funcs[f]? = some fn) :
    true = Tryd.pinned.checked.prog.looks [] ∧ ∀ (j : Nat) t, fn.params[j]? = some t → Tryd.pinned.checked.prog.wantsStandIn t = false := by
  obtain rfl : f = 5 := Option.some.inj ((show Tryd.prog.funcNamed "loop.example/g00941/laws.FnExactRunText" = some 5 by kernel_rfl).symm.trans hf) |>.symm
  obtain rfl : fn = Tryd.f5 := (Option.some.inj (Tryd.func5.symm.trans hfn)).symm
  refine ⟨by kernel_rfl, fun j t ht => ?_⟩
  rw [Tryd.params5] at ht
  obtain rfl : t = 47 := by simpa using Array.mem_of_getElem? ht
  exact (show Tryd.prog.wantsStandIn 47 = false by kernel_rfl)
/-- The given statement: the tied card. -/
theorem RunText_proved : Rows.FnExactRunTextCardSaid :=
  Claim7.holds_tied_plain_at .later [] _ _ _ _ RunText_over (fun _ h => by cases h) (by kernel_rfl) (fun _ h => by cases h) fnExactRunText_row_tie rfl ⟨rfl, rfl⟩ (by kernel_rfl) rfl RunText_plain (by kernel_rfl)
end Go.Proofs.YtlppfcamlggcnaaDoor
