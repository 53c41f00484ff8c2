/-
  FnExactCompileText, the tied card: the program's CompileText gives what the reference's gives (the graph of a line text); nothing that was there turns.
  Conditions: none beyond the statement's own.
-/
import Derived.Test.YtcoomogabicfnaaDoorLinU
import Derived.Test.YtcoomogabicfnaaDoorLinC
import Derived.Test.YtcoomogabicfnaaDoorStrM
import Derived.Test.YtcoomogabicfnaaDoorGLaw
import Derived.Test.YtcoomogabicfnaaDoorEnv
import Derived.Test.YtcoomogabicfnaaDoorOpen
import Derived.Test.YtcoomogabicfnaaDoorEnv
namespace Go.Proofs.YtcoomogabicfnaaDoor
open Go.RowKit Go.ChangeShapes Go.WideShapes Go.ChangeAt Go.Deep
set_option linter.unusedVariables false
set_option linter.unusedSimpArgs false

set_option maxHeartbeats 4000000 in
set_option maxRecDepth 100000 in
theorem law_CompileText (s : ByteArray) (w : World)  (o0 : Hid (s.size ≤ maxLen)) (hE : Env w) :
    Calls Tryd.prog 3 #[.string s] w fun e w' => e = .returned (.bool true) ∧ Below w.heap.size w w' := by
  have ht : Below w.heap.size w w := Below.refl _ _
  by_cases hp0 : 1048576 < s.size
  · have hpb : decide ((1048576 : Int) < s.size) = true := by simp; omega
    go_enter Tryd.func3, Tryd.ntmps3
    go_wp2_with fail
    go_ret
    exact ⟨rfl, (by repeat (first | exact Below.refl _ _ | refine Below.drew ?_ | refine Below.alloc ?_ (by first | omega | (simp; done) | (simp; omega) | (have q0 := ht.size; simp at q0; omega) | (have q0 := ht.size; simp at q0 ⊢; omega)) _ | refine Below.setCell ?_ (by first | omega | (simp; done) | (simp; omega) | (have q0 := ht.size; simp at q0; omega) | (have q0 := ht.size; simp at q0 ⊢; omega)) _ | refine Below.trans ?_ (Below.mono ht (by first | omega | (simp; done) | (simp; omega) | (have q0 := ht.size; simp at q0; omega) | (have q0 := ht.size; simp at q0 ⊢; omega)))))⟩
  · have hpb0 : decide ((1048576 : Int) < s.size) = false := by simp; omega
    have hn0 : s.size ≤ 1048576 := by omega
    have hs2 : s.size ≤ 100000000 := by omega
    have hlen0 : (compF s).pl.length ≤ 1048576 := Nat.le_trans (compF_len s).1 (by decide)
    have hlen1 : (compF s).nm.length ≤ 1048576 := Nat.le_trans (compF_len s).2 (by decide)
    go_enter Tryd.func3, Tryd.ntmps3
    go_wp2_with fail
    refine (spec_CompileText _ _  hs2).mono ?_
    rintro e w1 ⟨p0, p1, rfl, hp0, hp1, hB1⟩
    obtain ⟨Ap0, cp0, rfl⟩ := hp0.shape
    obtain ⟨Ap1, cp1, rfl⟩ := hp1.shape
    have rp0 := Lib.hid hp0.lt
    have rp1 := Lib.hid hp1.lt
    have s1 := hB1.size
    replace ht := ht.trans (hB1.mono ht.size)
    have hA1 : Below w1.heap.size w1 (w1.alloc (.cells #[.int .i64 (compF s).ev, .slice Ap0 ((compF s).pl).length cp0] 24)) := (Below.refl _ _).alloc (Nat.le_refl _) _
    have sA1 : w1.heap.size < (w1.alloc (.cells #[.int .i64 (compF s).ev, .slice Ap0 ((compF s).pl).length cp0] 24)).heap.size := by simp
    replace ht := ht.trans (hA1.mono ht.size)
    replace hp0 := hp0.now hA1
    replace hp1 := hp1.now hA1
    have kp00 : (w1.alloc (.cells #[.int .i64 (compF s).ev, .slice Ap0 ((compF s).pl).length cp0] 24)).cell? ⟨w1.heap.size, 0, none⟩ = some (.int .i64 (compF s).ev) := by simp
    have kp01 : (w1.alloc (.cells #[.int .i64 (compF s).ev, .slice Ap0 ((compF s).pl).length cp0] 24)).cell? ⟨w1.heap.size, 1, none⟩ = some (.slice Ap0 ((compF s).pl).length cp0) := by simp
    clear hA1
    go_wp2_with fail
    refine (impl_CompileText _ _  hs2 (hE.now ht)).mono ?_
    rintro e w2 ⟨g0, g1, rfl, hg0, hg1, hB2⟩
    obtain ⟨Ag0, cg0, rfl⟩ := hg0.shape
    obtain ⟨Ag1, cg1, rfl⟩ := hg1.shape
    have rg0 := Lib.hid hg0.lt
    have rg1 := Lib.hid hg1.lt
    have s2 := hB2.size
    replace ht := ht.trans (hB2.mono ht.size)
    replace hp0 := hp0.now hB2
    replace hp1 := hp1.now hB2
    replace kp00 := cell_keep kp00 hB2
    replace kp01 := cell_keep kp01 hB2
    have hA2 : Below w2.heap.size w2 (w2.alloc (.cells #[.int .i64 (compF s).ev, .slice Ag0 ((compF s).pl).length cg0] 24)) := (Below.refl _ _).alloc (Nat.le_refl _) _
    have sA2 : w2.heap.size < (w2.alloc (.cells #[.int .i64 (compF s).ev, .slice Ag0 ((compF s).pl).length cg0] 24)).heap.size := by simp
    replace ht := ht.trans (hA2.mono ht.size)
    replace hp0 := hp0.now hA2
    replace hp1 := hp1.now hA2
    replace hg0 := hg0.now hA2
    replace hg1 := hg1.now hA2
    replace kp00 := cell_keep kp00 hA2
    replace kp01 := cell_keep kp01 hA2
    have kg00 : (w2.alloc (.cells #[.int .i64 (compF s).ev, .slice Ag0 ((compF s).pl).length cg0] 24)).cell? ⟨w2.heap.size, 0, none⟩ = some (.int .i64 (compF s).ev) := by simp
    have kg01 : (w2.alloc (.cells #[.int .i64 (compF s).ev, .slice Ag0 ((compF s).pl).length cg0] 24)).cell? ⟨w2.heap.size, 1, none⟩ = some (.slice Ag0 ((compF s).pl).length cg0) := by simp
    clear hA2
    go_wp2_with fail
    refine (laws_eqEventGraph _ _ _ _ _ _ _ hg0.lst hp0.lst).mono ?_
    rintro e w3 ⟨rfl, hB3⟩
    have s3 := hB3.size
    replace ht := ht.trans (hB3.mono ht.size)
    replace hp0 := hp0.now hB3
    replace hp1 := hp1.now hB3
    replace hg0 := hg0.now hB3
    replace hg1 := hg1.now hB3
    replace kp00 := cell_keep kp00 hB3
    replace kp01 := cell_keep kp01 hB3
    replace kg00 := cell_keep kg00 hB3
    replace kg01 := cell_keep kg01 hB3
    go_wp2_with fail
    refine (laws_eqStringS _ _ _ _ _ hg1.lst hp1.lst).mono ?_
    rintro e w4 ⟨rfl, hB4⟩
    have s4 := hB4.size
    replace ht := ht.trans (hB4.mono ht.size)
    replace hp0 := hp0.now hB4
    replace hp1 := hp1.now hB4
    replace hg0 := hg0.now hB4
    replace hg1 := hg1.now hB4
    replace kp00 := cell_keep kp00 hB4
    replace kp01 := cell_keep kp01 hB4
    replace kg00 := cell_keep kg00 hB4
    replace kg01 := cell_keep kg01 hB4
    go_wp2_with fail
    refine (laws_markEventGraph _ _ _ _ _ _ hg0 hlen0 (by omega) (by omega)).mono ?_
    have hzz := hg0
    clear hg0
    rintro e w5 ⟨rfl, hg0, hG⟩
    replace hp0 := own_kept hp0 hG (by intro k hk hk'; have q1 := rp0.out k hk; have q2 := rg0.out k hk'; omega)
    replace hp1 := own_kept hp1 hG (by intro k hk hk'; have q1 := rp1.out k hk; have q2 := rg0.out k hk'; omega)
    replace hg1 := own_kept hg1 hG (own_apart hg1 hzz (by decide))
    replace kp00 := cell_kept kp00 hG (by intro hk; have q2 := rg0.out _ hk; simp at * <;> omega)
    replace kp01 := cell_kept kp01 hG (by intro hk; have q2 := rg0.out _ hk; simp at * <;> omega)
    replace kg00 := cell_kept kg00 hG (by intro hk; have q2 := rg0.out _ hk; simp at * <;> omega)
    replace kg01 := cell_kept kg01 hG (by intro hk; have q2 := rg0.out _ hk; simp at * <;> omega)
    replace ht := ht.grown hG ht.size (by intro k hk; have q2 := rg0.out k hk; omega)
    have s5 := hG.size
    clear hG hzz
    go_wp2_with fail
    refine (laws_markStringS _ _ _ _ _ hg1 hlen1 (by omega) (by omega)).mono ?_
    have hzz := hg1
    clear hg1
    rintro e w6 ⟨rfl, hg1, hG⟩
    replace hp0 := own_kept hp0 hG (by intro k hk hk'; have q1 := rp0.out k hk; have q2 := rg1.out k hk'; omega)
    replace hp1 := own_kept hp1 hG (by intro k hk hk'; have q1 := rp1.out k hk; have q2 := rg1.out k hk'; omega)
    replace hg0 := own_kept hg0 hG (own_apart hg0 hzz (by decide))
    replace kp00 := cell_kept kp00 hG (by intro hk; have q2 := rg1.out _ hk; simp at * <;> omega)
    replace kp01 := cell_kept kp01 hG (by intro hk; have q2 := rg1.out _ hk; simp at * <;> omega)
    replace kg00 := cell_kept kg00 hG (by intro hk; have q2 := rg1.out _ hk; simp at * <;> omega)
    replace kg01 := cell_kept kg01 hG (by intro hk; have q2 := rg1.out _ hk; simp at * <;> omega)
    replace ht := ht.grown hG ht.size (by intro k hk; have q2 := rg1.out k hk; omega)
    have s6 := hG.size
    clear hG hzz
    go_wp2_with fail
    refine (laws_heldEventGraph _ _ _ _ _ hg0.lst hlen0 (by omega) (by omega)).mono ?_
    rintro e w7 ⟨rfl, hB7⟩
    have s7 := hB7.size
    replace ht := ht.trans (hB7.mono ht.size)
    replace hp0 := hp0.now hB7
    replace hp1 := hp1.now hB7
    replace hg0 := hg0.now hB7
    replace hg1 := hg1.now hB7
    replace kp00 := cell_keep kp00 hB7
    replace kp01 := cell_keep kp01 hB7
    replace kg00 := cell_keep kg00 hB7
    replace kg01 := cell_keep kg01 hB7
    go_wp2_with fail
    refine (laws_heldStringS _ _ _ _ hg1.lst hlen1 (by omega) (by omega)).mono ?_
    rintro e w8 ⟨rfl, hB8⟩
    have s8 := hB8.size
    replace ht := ht.trans (hB8.mono ht.size)
    replace hp0 := hp0.now hB8
    replace hp1 := hp1.now hB8
    replace hg0 := hg0.now hB8
    replace hg1 := hg1.now hB8
    replace kp00 := cell_keep kp00 hB8
    replace kp01 := cell_keep kp01 hB8
    replace kg00 := cell_keep kg00 hB8
    replace kg01 := cell_keep kg01 hB8
    go_wp2_with fail
    refine (impl_CompileText _ _  hs2 (hE.now ht)).mono ?_
    rintro e w9 ⟨k0, k1, rfl, hk0, hk1, hB9⟩
    obtain ⟨Ak0, ck0, rfl⟩ := hk0.shape
    obtain ⟨Ak1, ck1, rfl⟩ := hk1.shape
    have rk0 := Lib.hid hk0.lt
    have rk1 := Lib.hid hk1.lt
    have s9 := hB9.size
    replace ht := ht.trans (hB9.mono ht.size)
    replace hp0 := hp0.now hB9
    replace hp1 := hp1.now hB9
    replace hg0 := hg0.now hB9
    replace hg1 := hg1.now hB9
    replace kp00 := cell_keep kp00 hB9
    replace kp01 := cell_keep kp01 hB9
    replace kg00 := cell_keep kg00 hB9
    replace kg01 := cell_keep kg01 hB9
    have hA3 : Below w9.heap.size w9 (w9.alloc (.cells #[.int .i64 (compF s).ev, .slice Ak0 ((compF s).pl).length ck0] 24)) := (Below.refl _ _).alloc (Nat.le_refl _) _
    have sA3 : w9.heap.size < (w9.alloc (.cells #[.int .i64 (compF s).ev, .slice Ak0 ((compF s).pl).length ck0] 24)).heap.size := by simp
    replace ht := ht.trans (hA3.mono ht.size)
    replace hp0 := hp0.now hA3
    replace hp1 := hp1.now hA3
    replace hg0 := hg0.now hA3
    replace hg1 := hg1.now hA3
    replace hk0 := hk0.now hA3
    replace hk1 := hk1.now hA3
    replace kp00 := cell_keep kp00 hA3
    replace kp01 := cell_keep kp01 hA3
    replace kg00 := cell_keep kg00 hA3
    replace kg01 := cell_keep kg01 hA3
    have kk00 : (w9.alloc (.cells #[.int .i64 (compF s).ev, .slice Ak0 ((compF s).pl).length ck0] 24)).cell? ⟨w9.heap.size, 0, none⟩ = some (.int .i64 (compF s).ev) := by simp
    have kk01 : (w9.alloc (.cells #[.int .i64 (compF s).ev, .slice Ak0 ((compF s).pl).length ck0] 24)).cell? ⟨w9.heap.size, 1, none⟩ = some (.slice Ak0 ((compF s).pl).length ck0) := by simp
    clear hA3
    go_wp2_with fail
    refine (laws_eqEventGraph _ _ _ _ _ _ _ hk0.lst hp0.lst).mono ?_
    rintro e w10 ⟨rfl, hB10⟩
    have s10 := hB10.size
    replace ht := ht.trans (hB10.mono ht.size)
    replace hp0 := hp0.now hB10
    replace hp1 := hp1.now hB10
    replace hg0 := hg0.now hB10
    replace hg1 := hg1.now hB10
    replace hk0 := hk0.now hB10
    replace hk1 := hk1.now hB10
    replace kp00 := cell_keep kp00 hB10
    replace kp01 := cell_keep kp01 hB10
    replace kg00 := cell_keep kg00 hB10
    replace kg01 := cell_keep kg01 hB10
    replace kk00 := cell_keep kk00 hB10
    replace kk01 := cell_keep kk01 hB10
    go_wp2_with fail
    refine (laws_eqStringS _ _ _ _ _ hk1.lst hp1.lst).mono ?_
    rintro e w11 ⟨rfl, hB11⟩
    have s11 := hB11.size
    replace ht := ht.trans (hB11.mono ht.size)
    replace hp0 := hp0.now hB11
    replace hp1 := hp1.now hB11
    replace hg0 := hg0.now hB11
    replace hg1 := hg1.now hB11
    replace hk0 := hk0.now hB11
    replace hk1 := hk1.now hB11
    replace kp00 := cell_keep kp00 hB11
    replace kp01 := cell_keep kp01 hB11
    replace kg00 := cell_keep kg00 hB11
    replace kg01 := cell_keep kg01 hB11
    replace kk00 := cell_keep kk00 hB11
    replace kk01 := cell_keep kk01 hB11
    go_wp2_with fail
    refine (laws_heldEventGraph _ _ _ _ _ hg0.lst hlen0 (by omega) (by omega)).mono ?_
    rintro e w12 ⟨rfl, hB12⟩
    have s12 := hB12.size
    replace ht := ht.trans (hB12.mono ht.size)
    replace hp0 := hp0.now hB12
    replace hp1 := hp1.now hB12
    replace hg0 := hg0.now hB12
    replace hg1 := hg1.now hB12
    replace hk0 := hk0.now hB12
    replace hk1 := hk1.now hB12
    replace kp00 := cell_keep kp00 hB12
    replace kp01 := cell_keep kp01 hB12
    replace kg00 := cell_keep kg00 hB12
    replace kg01 := cell_keep kg01 hB12
    replace kk00 := cell_keep kk00 hB12
    replace kk01 := cell_keep kk01 hB12
    go_wp2_with fail
    refine (laws_heldStringS _ _ _ _ hg1.lst hlen1 (by omega) (by omega)).mono ?_
    rintro e w13 ⟨rfl, hB13⟩
    have s13 := hB13.size
    replace ht := ht.trans (hB13.mono ht.size)
    replace hp0 := hp0.now hB13
    replace hp1 := hp1.now hB13
    replace hg0 := hg0.now hB13
    replace hg1 := hg1.now hB13
    replace hk0 := hk0.now hB13
    replace hk1 := hk1.now hB13
    replace kp00 := cell_keep kp00 hB13
    replace kp01 := cell_keep kp01 hB13
    replace kg00 := cell_keep kg00 hB13
    replace kg01 := cell_keep kg01 hB13
    replace kk00 := cell_keep kk00 hB13
    replace kk01 := cell_keep kk01 hB13
    go_wp2_with fail
    go_ret
    exact ⟨rfl, (by repeat (first | exact Below.refl _ _ | refine Below.drew ?_ | refine Below.alloc ?_ (by first | omega | (simp; done) | (simp; omega) | (have q0 := ht.size; simp at q0; omega) | (have q0 := ht.size; simp at q0 ⊢; omega)) _ | refine Below.setCell ?_ (by first | omega | (simp; done) | (simp; omega) | (have q0 := ht.size; simp at q0; omega) | (have q0 := ht.size; simp at q0 ⊢; omega)) _ | refine Below.trans ?_ (Below.mono ht (by first | omega | (simp; done) | (simp; omega) | (have q0 := ht.size; simp at q0; omega) | (have q0 := ht.size; simp at q0 ⊢; omega)))))⟩

theorem CompileText_own : ownKnob Tryd.prog.godebug = none := by kernel_rfl
theorem CompileText_laidOut : laidOutB Tryd.prog = true := by kernel_rfl
theorem CompileText_env {W : World} (h : laidMetH Tryd.prog Rows.fnExactCompileTextRow.laid W) (hS : W.ShapedOpen Tryd.prog) : Env W := envOf_laid h hS (by kernel_rfl) (by kernel_rfl) (by kernel_rfl) (by kernel_rfl)
set_option maxRecDepth 100000 in
theorem CompileText_contract (H : Type) (enc : TypeId × Value → H) (W : World) (base : Nat) (args : Array Value) (ds gs : List (DataW H)) (before : List MemPlace)
    (hval0 : ∀ (j : Nat) t v, Tryd.f3.params[j]? = some t → args[j]? = some v → Value.okWide Tryd.prog W .any base t v)
    (hW : DataW.Whole enc Tryd.prog Tryd.f3.params.toList Rows.fnExactCompileTextSpec.vars false W args.toList ds gs before) (hL : laidMetH Tryd.prog Rows.fnExactCompileTextRow.laid W) (hS : W.ShapedOpen Tryd.prog) :
    Calls Tryd.prog 3 args W fun e W' => ∃ v, e = .returned v ∧ Rows.fnExactCompileTextSpec.post enc Tryd.prog Tryd.f3 false true false false W args v W' := by
  have hval : ∀ (j : Nat) t v, Tryd.f3.params[j]? = some t → args[j]? = some v → Value.okWide Tryd.prog W .any base t v := hval0
  have hW' := hW
  obtain ⟨p, q, hA0, hV, rfl, hfz, hnd⟩ := hW
  have hA : DataW.TrodAll enc Tryd.prog W 0 (fun _ => true) true Tryd.f3.params.toList args.toList ds p := hA0
  rw [Tryd.params3] at hA hval
  obtain ⟨v0, vs0, d0, ds0, p0, q0, hargs, rfl, rfl, h0, r0⟩ := trodAll_cons hA
  obtain ⟨rfl, rfl, rfl⟩ := trodAll_nil r0
  obtain rfl : args = #[v0] := by cases args; simp_all
  obtain ⟨rfl, rfl⟩ := trodVars_none hV
  have k0 := h0
  have lt0 : ∀ x ∈ p0, x.block < W.heap.size := by obtain ⟨m, hm⟩ := k0; exact DataW.trod_lt m _ _ _ hm
  obtain ⟨a0, rfl, rfl, rfl, w0⟩ := Go.ChangeMaps.open_string Tryd.underlying9 (hval 0 9 v0 rfl rfl) h0
  have o0 : Hid (a0.size ≤ maxLen) := w0
  clear hA0 hval0
  refine (law_CompileText _ W  o0 (CompileText_env hL hS)).mono fun e W' ⟨he, bel⟩ => ?_
  subst he
  exact ⟨_, rfl, _, _, _, [], _, [], hW', trodAll_mk1 (shut_bool Tryd.underlying4 _), (trodAll_cons_mk (Below.trod CompileText_laidOut (by kernel_rfl) (of_decide_eq_true (by kernel_rfl)) k0 bel lt0) trodAll_mk0), rfl, bel.frame _, fun h => by cases h⟩
set_option maxRecDepth 100000 in
theorem CompileText_met (os : Os) : laidMetH Tryd.prog Rows.fnExactCompileTextRow.laid ((World.laidAll Tryd.prog os Rows.fnExactCompileTextRow.laid).forCall (fun _ _ => 0) ⟨#[], #[.string ByteArray.empty], []⟩).memory := by
  rw [Go.MakeChecks.laidMetH_plain _ _ _ (by kernel_rfl)]
  exact laidMet_laidAll _ (by kernel_rfl) (by kernel_rfl)
theorem CompileText_reads (os : Os) {H : Type} (enc : TypeId × Value → H) : ∃ places, DataW.whole enc Tryd.prog ((World.laidAll Tryd.prog os Rows.fnExactCompileTextRow.laid).forCall (fun _ _ => 0) ⟨#[], #[.string ByteArray.empty], []⟩).memory Tryd.f3.params.toList Rows.fnExactCompileTextSpec.vars false (#[.string ByteArray.empty] : Array Value).toList 8 = some ([.lit (.string [])], [], places) := ⟨[], by kernel_rfl⟩
set_option maxRecDepth 100000 in
theorem CompileText_lifted (os : Os) (started : os.Started) (H : Type) (enc : TypeId × Value → H) (F : Stop.Interp) :
    ReturnsInHanded {} Tryd.checked os 3 .any ((OpenSpec.ofChange Rows.fnExactCompileTextSpec).preRow enc Tryd.prog Tryd.f3 Rows.fnExactCompileTextRow.domain false Rows.fnExactCompileTextRow.laid) (((OpenSpec.ofChange Rows.fnExactCompileTextSpec).at F).post enc Tryd.prog Tryd.f3 false true false false) := by
  obtain ⟨places, hx⟩ := CompileText_reads os enc
  refine returnsInHanded_of_row (C := Tryd.checked) (s := OpenSpec.ofChange Rows.fnExactCompileTextSpec) CompileText_own started (by kernel_rfl) Tryd.func3
    ⟨World.laidAll Tryd.prog os Rows.fnExactCompileTextRow.laid, fun _ _ => 0, ⟨#[], #[.string ByteArray.empty], []⟩, World.laidAll_os _ _ _, World.shaped_of_ZipB (by kernel_rfl) (by kernel_rfl), rfl, (Input.okWide_of_okWideB (by kernel_rfl)).2,
      OpenSpec.preRow_of_cond 8 hx (by kernel_rfl) (fun k hk => by cases hk) (by kernel_rfl) (CompileText_met os), by simp [Assume.holds]⟩ ?_
  intro W base args ds gs before hval hW _ _ _ hL hS _
  exact CompileText_contract H enc W base args ds gs before hval hW hL hS
theorem CompileText_over : Rows.FnExactCompileTextSaid :=
  OpenClaim.holds_of_cond 3 Tryd.f3 rfl rfl rfl rfl rfl rfl rfl ⟨rfl, rfl, rfl, rfl, rfl⟩ rfl rfl rfl rfl rfl (by kernel_rfl) Tryd.func3 (by kernel_rfl)
    (of_decide_eq_true (by kernel_rfl)) (by unfold Func.isWrapper; first | (rw [if_pos (by decide +kernel)]; kernel_rfl) | (rw [if_neg (by decide +kernel)]; exact ⟨rfl, rfl⟩))
    (fun os started H enc _ F => by rw [OpenClaim.pre_eq_preRow]; exact CompileText_lifted os started H enc F)
theorem CompileText_plain (f : FuncId) (fn : Func) (hf : Tryd.pinned.checked.prog.funcNamed "loop.example/g00941/laws.FnExactCompileText" = some f) (hfn : Tryd.pinned.checked.prog.funcs[f]? = some fn) :
    true = Tryd.pinned.checked.prog.looks [] ∧ ∀ (j : Nat) t, fn.params[j]? = some t → Tryd.pinned.checked.prog.wantsStandIn t = false := by
  obtain rfl : f = 3 := Option.some.inj ((show Tryd.prog.funcNamed "loop.example/g00941/laws.FnExactCompileText" = some 3 by kernel_rfl).symm.trans hf) |>.symm
  obtain rfl : fn = Tryd.f3 := (Option.some.inj (Tryd.func3.symm.trans hfn)).symm
  refine ⟨by kernel_rfl, fun j t ht => ?_⟩
  rw [Tryd.params3] at ht
  obtain rfl : t = 9 := by simpa using Array.mem_of_getElem? ht
  exact (show Tryd.prog.wantsStandIn 9 = false by kernel_rfl)
/-- The given statement: the tied card. -/
theorem CompileText_proved : Rows.FnExactCompileTextCardSaid :=
  Claim7.holds_tied_plain_at .later [] _ _ _ _ CompileText_over (fun _ h => by cases h) (by kernel_rfl) (fun _ h => by cases h) fnExactCompileText_row_tie rfl ⟨rfl, rfl⟩ (by kernel_rfl) rfl CompileText_plain (by kernel_rfl)
end Go.Proofs.YtcoomogabicfnaaDoor
