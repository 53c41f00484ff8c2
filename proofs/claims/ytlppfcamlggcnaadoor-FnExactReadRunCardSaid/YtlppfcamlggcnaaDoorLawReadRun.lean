/-
  FnExactReadRun, the tied card: the program's ReadRun gives what the reference's gives (the run with a text); nothing that was there turns.
  Conditions: none beyond the statement's own.
-/
import Derived.Test.YtlppfcamlggcnaaDoorReadI
import Derived.Test.YtlppfcamlggcnaaDoorGLaw
import Derived.Test.YtlppfcamlggcnaaDoorOpen
import Derived.Test.YtlppfcamlggcnaaDoorEnv
namespace Go.Proofs.YtlppfcamlggcnaaDoor
open Go.RowKit Go.ChangeShapes Go.WideShapes Go.ChangeAt Go.Deep
set_option linter.unusedVariables false
set_option linter.unusedSimpArgs false

set_option maxHeartbeats 4000000 in
set_option maxRecDepth 100000 in
theorem law_ReadRun (s : ByteArray) (w : World)  (o0 : Hid (s.size ≤ maxLen)) (hE : Env w) :
    Calls Tryd.prog 7 #[.string s] w fun e w' => e = .returned (.bool true) ∧ Below w.heap.size w w' := by
  have ht : Below w.heap.size w w := Below.refl _ _
  by_cases hp0 : 1048576 < s.size
  · have hpb : decide ((1048576 : Int) < s.size) = true := by simp; omega
    go_enter Tryd.func7, Tryd.ntmps7
    go_wp2_with fail
    go_ret
    exact ⟨rfl, (by repeat (first | exact Below.refl _ _ | refine Below.drew ?_ | refine Below.alloc ?_ (by first | omega | (simp; done) | (simp; omega) | (have q0 := ht.size; simp at q0; omega) | (have q0 := ht.size; simp at q0 ⊢; omega)) _ | refine Below.setCell ?_ (by first | omega | (simp; done) | (simp; omega) | (have q0 := ht.size; simp at q0; omega) | (have q0 := ht.size; simp at q0 ⊢; omega)) _ | refine Below.trans ?_ (Below.mono ht (by first | omega | (simp; done) | (simp; omega) | (have q0 := ht.size; simp at q0; omega) | (have q0 := ht.size; simp at q0 ⊢; omega)))))⟩
  · have hpb0 : decide ((1048576 : Int) < s.size) = false := by simp; omega
    have hn0 : s.size ≤ 1048576 := by omega
    have hs2 : s.size ≤ 100000000 := by omega
    have hlen0 : ((readF s).getD []).length ≤ 1048576 := readF_len s
    go_enter Tryd.func7, Tryd.ntmps7
    go_wp2_with fail
    refine (spec_ReadRun _ _  hs2).mono ?_
    rintro e w1 ⟨p0, rfl, hp0, hB1⟩
    obtain ⟨Ap0, cp0, rfl⟩ := hp0.shape
    have rp0 := Lib.hid hp0.lt
    have s1 := hB1.size
    replace ht := ht.trans (hB1.mono ht.size)
    go_wp2_with fail
    refine (impl_ReadRun _ _  hs2 (hE.now ht)).mono ?_
    rintro e w2 ⟨g0, rfl, hg0, hB2⟩
    obtain ⟨Ag0, cg0, rfl⟩ := hg0.shape
    have rg0 := Lib.hid hg0.lt
    have s2 := hB2.size
    replace ht := ht.trans (hB2.mono ht.size)
    replace hp0 := hp0.now hB2
    go_wp2_with fail
    refine (laws_eqFiringS _ _ _ _ _ hg0.lst hp0.lst).mono ?_
    rintro e w3 ⟨rfl, hB3⟩
    have s3 := hB3.size
    replace ht := ht.trans (hB3.mono ht.size)
    replace hp0 := hp0.now hB3
    replace hg0 := hg0.now hB3
    go_wp2_with fail
    refine (laws_markFiringS _ _ _ _ _ hg0 hlen0 (by omega) (by omega)).mono ?_
    clear hg0
    rintro e w4 ⟨rfl, hg0, hG⟩
    replace hp0 := own_kept hp0 hG (by intro k hk hk'; have q1 := rp0.out k hk; have q2 := rg0.out k hk'; omega)
    replace ht := ht.grown hG ht.size (by intro k hk; have q2 := rg0.out k hk; omega)
    have s4 := hG.size
    clear hG
    go_wp2_with fail
    refine (laws_heldFiringS _ _ _ _ _ hg0.lst hlen0 (by omega) (by omega)).mono ?_
    rintro e w' ⟨rfl, rfl⟩
    go_wp2_with fail
    refine (impl_ReadRun _ _  hs2 (hE.now ht)).mono ?_
    rintro e w5 ⟨k0, rfl, hk0, hB5⟩
    obtain ⟨Ak0, ck0, rfl⟩ := hk0.shape
    have rk0 := Lib.hid hk0.lt
    have s5 := hB5.size
    replace ht := ht.trans (hB5.mono ht.size)
    replace hp0 := hp0.now hB5
    replace hg0 := hg0.now hB5
    go_wp2_with fail
    refine (laws_eqFiringS _ _ _ _ _ hk0.lst hp0.lst).mono ?_
    rintro e w6 ⟨rfl, hB6⟩
    have s6 := hB6.size
    replace ht := ht.trans (hB6.mono ht.size)
    replace hp0 := hp0.now hB6
    replace hg0 := hg0.now hB6
    replace hk0 := hk0.now hB6
    go_wp2_with fail
    refine (laws_heldFiringS _ _ _ _ _ hg0.lst hlen0 (by omega) (by omega)).mono ?_
    rintro e w' ⟨rfl, rfl⟩
    go_wp2_with fail
    go_ret
    exact ⟨rfl, (by repeat (first | exact Below.refl _ _ | refine Below.drew ?_ | refine Below.alloc ?_ (by first | omega | (simp; done) | (simp; omega) | (have q0 := ht.size; simp at q0; omega) | (have q0 := ht.size; simp at q0 ⊢; omega)) _ | refine Below.setCell ?_ (by first | omega | (simp; done) | (simp; omega) | (have q0 := ht.size; simp at q0; omega) | (have q0 := ht.size; simp at q0 ⊢; omega)) _ | refine Below.trans ?_ (Below.mono ht (by first | omega | (simp; done) | (simp; omega) | (have q0 := ht.size; simp at q0; omega) | (have q0 := ht.size; simp at q0 ⊢; omega)))))⟩

theorem ReadRun_own : ownKnob Tryd.prog.godebug = none := by kernel_rfl
theorem ReadRun_laidOut : laidOutB Tryd.prog = true := by kernel_rfl
theorem ReadRun_env {W : World} (h : laidMetH Tryd.prog Rows.fnExactReadRunRow.laid W) (hS : W.ShapedOpen Tryd.prog) : Env W := envOf_laid h hS (by kernel_rfl) (by kernel_rfl) (by kernel_rfl) (by kernel_rfl)
set_option maxRecDepth 100000 in
theorem ReadRun_contract (H : Type) (enc : TypeId × Value → H) (W : World) (base : Nat) (args : Array Value) (ds gs : List (DataW H)) (before : List MemPlace)
    (hval0 : ∀ (j : Nat) t v, Tryd.f7.params[j]? = some t → args[j]? = some v → Value.okWide Tryd.prog W .any base t v)
    (hW : DataW.Whole enc Tryd.prog Tryd.f7.params.toList Rows.fnExactReadRunSpec.vars false W args.toList ds gs before) (hL : laidMetH Tryd.prog Rows.fnExactReadRunRow.laid W) (hS : W.ShapedOpen Tryd.prog) :
    Calls Tryd.prog 7 args W fun e W' => ∃ v, e = .returned v ∧ Rows.fnExactReadRunSpec.post enc Tryd.prog Tryd.f7 false true false false W args v W' := by
  have hval : ∀ (j : Nat) t v, Tryd.f7.params[j]? = some t → args[j]? = some v → Value.okWide Tryd.prog W .any base t v := hval0
  have hW' := hW
  obtain ⟨p, q, hA0, hV, rfl, hfz, hnd⟩ := hW
  have hA : DataW.TrodAll enc Tryd.prog W 0 (fun _ => true) true Tryd.f7.params.toList args.toList ds p := hA0
  rw [Tryd.params7] at hA hval
  obtain ⟨v0, vs0, d0, ds0, p0, q0, hargs, rfl, rfl, h0, r0⟩ := trodAll_cons hA
  obtain ⟨rfl, rfl, rfl⟩ := trodAll_nil r0
  obtain rfl : args = #[v0] := by cases args; simp_all
  obtain ⟨rfl, rfl⟩ := trodVars_none hV
  have k0 := h0
  have lt0 : ∀ x ∈ p0, x.block < W.heap.size := by obtain ⟨m, hm⟩ := k0; exact DataW.trod_lt m _ _ _ hm
  obtain ⟨a0, rfl, rfl, rfl, w0⟩ := Go.ChangeMaps.open_string Tryd.underlying9 (hval 0 9 v0 rfl rfl) h0
  have o0 : Hid (a0.size ≤ maxLen) := w0
  clear hA0 hval0
  refine (law_ReadRun _ W  o0 (ReadRun_env hL hS)).mono fun e W' ⟨he, bel⟩ => ?_
  subst he
  exact ⟨_, rfl, _, _, _, [], _, [], hW', trodAll_mk1 (shut_bool Tryd.underlying4 _), (trodAll_cons_mk (Below.trod ReadRun_laidOut (by kernel_rfl) (of_decide_eq_true (by kernel_rfl)) k0 bel lt0) trodAll_mk0), rfl, bel.frame _, fun h => by cases h⟩
set_option maxRecDepth 100000 in
theorem ReadRun_met (os : Os) : laidMetH Tryd.prog Rows.fnExactReadRunRow.laid ((World.laidAll Tryd.prog os Rows.fnExactReadRunRow.laid).forCall (fun _ _ => 0) ⟨#[], #[.string ByteArray.empty], []⟩).memory := by
  rw [Go.MakeChecks.laidMetH_plain _ _ _ (by kernel_rfl)]
  exact laidMet_laidAll _ (by kernel_rfl) (by kernel_rfl)
theorem ReadRun_reads (os : Os) {H : Type} (enc : TypeId × Value → H) : ∃ places, DataW.whole enc Tryd.prog ((World.laidAll Tryd.prog os Rows.fnExactReadRunRow.laid).forCall (fun _ _ => 0) ⟨#[], #[.string ByteArray.empty], []⟩).memory Tryd.f7.params.toList Rows.fnExactReadRunSpec.vars false (#[.string ByteArray.empty] : Array Value).toList 8 = some ([.lit (.string [])], [], places) := ⟨[], by kernel_rfl⟩
set_option maxRecDepth 100000 in
theorem ReadRun_lifted (os : Os) (started : os.Started) (H : Type) (enc : TypeId × Value → H) (F : Stop.Interp) :
    ReturnsInHanded {} Tryd.checked os 7 .any ((OpenSpec.ofChange Rows.fnExactReadRunSpec).preRow enc Tryd.prog Tryd.f7 Rows.fnExactReadRunRow.domain false Rows.fnExactReadRunRow.laid) (((OpenSpec.ofChange Rows.fnExactReadRunSpec).at F).post enc Tryd.prog Tryd.f7 false true false false) := by
  obtain ⟨places, hx⟩ := ReadRun_reads os enc
  refine returnsInHanded_of_row (C := Tryd.checked) (s := OpenSpec.ofChange Rows.fnExactReadRunSpec) ReadRun_own started (by kernel_rfl) Tryd.func7
    ⟨World.laidAll Tryd.prog os Rows.fnExactReadRunRow.laid, fun _ _ => 0, ⟨#[], #[.string ByteArray.empty], []⟩, World.laidAll_os _ _ _, World.shaped_of_ZipB (by kernel_rfl) (by kernel_rfl), rfl, (Input.okWide_of_okWideB (by kernel_rfl)).2,
      OpenSpec.preRow_of_cond 8 hx (by kernel_rfl) (fun k hk => by cases hk) (by kernel_rfl) (ReadRun_met os), by simp [Assume.holds]⟩ ?_
  intro W base args ds gs before hval hW _ _ _ hL hS _
  exact ReadRun_contract H enc W base args ds gs before hval hW hL hS
theorem ReadRun_over : Rows.FnExactReadRunSaid :=
  OpenClaim.holds_of_cond 7 Tryd.f7 rfl rfl rfl rfl rfl rfl rfl ⟨rfl, rfl, rfl, rfl, rfl⟩ rfl rfl rfl rfl rfl (by kernel_rfl) Tryd.func7 (by kernel_rfl)
    (of_decide_eq_true (by kernel_rfl)) (by unfold Func.isWrapper; first | (rw [if_pos (by decide +kernel)]; kernel_rfl) | (rw [if_neg (by decide +kernel)]; exact ⟨rfl, rfl⟩))
    (fun os started H enc _ F => by rw [OpenClaim.pre_eq_preRow]; exact ReadRun_lifted os started H enc F)
theorem ReadRun_plain (f : FuncId) (fn : Func) (hf : Tryd.pinned.checked.prog.funcNamed "loop.example/g00941/laws.FnExactReadRun" = some f) (hfn : Tryd.pinned.checked.prog.funcs[f]? = some fn) :
    true = Tryd.pinned.checked.prog.looks [] ∧ ∀ (j : Nat) t, fn.params[j]? = some t → Tryd.pinned.checked.prog.wantsStandIn t = false := by
  obtain rfl : f = 7 := Option.some.inj ((show Tryd.prog.funcNamed "loop.example/g00941/laws.FnExactReadRun" = some 7 by kernel_rfl).symm.trans hf) |>.symm
  obtain rfl : fn = Tryd.f7 := (Option.some.inj (Tryd.func7.symm.trans hfn)).symm
  refine ⟨by kernel_rfl, fun j t ht => ?_⟩
  rw [Tryd.params7] at ht
  obtain rfl : t = 9 := by simpa using Array.mem_of_getElem? ht
  exact (show Tryd.prog.wantsStandIn 9 = false by kernel_rfl)
/-- The given statement: the tied card. -/
theorem ReadRun_proved : Rows.FnExactReadRunCardSaid :=
  Claim7.holds_tied_plain_at .later [] _ _ _ _ ReadRun_over (fun _ h => by cases h) (by kernel_rfl) (fun _ h => by cases h) fnExactReadRun_row_tie rfl ⟨rfl, rfl⟩ (by kernel_rfl) rfl ReadRun_plain (by kernel_rfl)
end Go.Proofs.YtlppfcamlggcnaaDoor
