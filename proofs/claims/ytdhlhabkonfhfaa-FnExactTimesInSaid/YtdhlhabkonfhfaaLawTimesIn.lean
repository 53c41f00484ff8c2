/-
  FnExactTimesIn returns true for every input: the program's TimesIn gives what the reference's gives (the times of an event's firings); nothing that was there turns.
  Conditions: none beyond the statement's own.
-/
import Derived.Test.YtdhlhabkonfhfaaTimes
import Derived.Test.YtdhlhabkonfhfaaEqs
import Derived.Test.YtdhlhabkonfhfaaMark
import Derived.Test.YtdhlhabkonfhfaaOpen
namespace Go.Proofs.Ytdhlhabkonfhfaa
open Go.RowKit Go.ChangeShapes Go.WideShapes Go.ChangeAt Go.Deep
set_option linter.unusedVariables false
set_option linter.unusedSimpArgs false

set_option maxHeartbeats 4000000 in
set_option maxRecDepth 100000 in
theorem law_TimesIn (v : Value) (l : List Firing) (ev : Int) (w : World) (a0 : Lst Firing.cells 3 w w.heap.size v l) (o0 : Hid (∀ x ∈ l, x.ok)) (o1 : Hid (i64ok ev)) :
    Calls Try.prog 5 #[v, .int .i64 ev] w fun e w' => e = .returned (.bool true) ∧ Below w.heap.size w w' := by
  by_cases hs0 : (1048576 : Int) < l.length
  · have hz : (if (1048576 : Int) < l.length then (-1 : Int) else (1048576 : Int) - l.length) = -1 := if_pos hs0
    go_enter Try.func5, Try.ntmps5
    go_wp2_with fail
    refine (laws_szFiringS _ _ _ _ _ a0 (by omega) (by omega)).mono ?_
    rintro e w' ⟨rfl, rfl⟩
    go_wp2_with fail
    go_ret
    exact ⟨rfl, Below.refl _ _⟩
  · have hz0 : (if (1048576 : Int) < l.length then (-1 : Int) else (1048576 : Int) - l.length) = (1048576 : Int) - l.length := if_neg hs0
    have hn0 : l.length ≤ 1048576 := by omega
    have hlen0 : (timesInF l ev).1.length ≤ 1048576 := Nat.le_trans (timesInF_len l ev) hn0
    go_enter Try.func5, Try.ntmps5
    go_wp2_with fail
    refine (laws_szFiringS _ _ _ _ _ a0 (by omega) (by omega)).mono ?_
    rintro e w' ⟨rfl, rfl⟩
    go_wp2_with fail
    refine (laws_toFiringS _ _ _ a0 hn0).mono ?_
    rintro e w1 ⟨y0, rfl, hy0, hB1⟩
    have ry0 := Lib.hid hy0.lt
    have s1 := hB1.size
    have ht := hB1
    go_wp2_with fail
    refine (spec_TimesIn _ _ _ _ hy0.lst ).mono ?_
    rintro e w2 ⟨p0, rfl, hp0, hB2⟩
    have rp0 := Lib.hid hp0.lt
    have s2 := hB2.size
    replace ht := ht.trans (hB2.mono ht.size)
    replace hy0 := hy0.now hB2
    go_wp2_with fail
    clear hy0 ry0
    refine (laws_toFiringS _ _ _ ((a0.below ht (Nat.le_refl _)).more ht.size) hn0).mono ?_
    rintro e w3 ⟨x0, rfl, hx0, hB3⟩
    have rx0 := Lib.hid hx0.lt
    have s3 := hB3.size
    replace ht := ht.trans (hB3.mono ht.size)
    replace hp0 := hp0.now hB3
    go_wp2_with fail
    refine (impl_TimesIn _ _ _ _ hx0.lst ).mono ?_
    rintro e w4 ⟨g0, rfl, hg0, hB4⟩
    have rg0 := Lib.hid hg0.lt
    have s4 := hB4.size
    replace ht := ht.trans (hB4.mono ht.size)
    replace hp0 := hp0.now hB4
    replace hx0 := hx0.now hB4
    go_wp2_with fail
    refine (laws_eqInt64S _ _ _ _ _ hg0.lst hp0.lst).mono ?_
    rintro e w5 ⟨rfl, hB5⟩
    have s5 := hB5.size
    replace ht := ht.trans (hB5.mono ht.size)
    replace hp0 := hp0.now hB5
    replace hx0 := hx0.now hB5
    replace hg0 := hg0.now hB5
    go_wp2_with fail
    refine (laws_toFiringS _ _ _ ((a0.below ht (Nat.le_refl _)).more ht.size) hn0).mono ?_
    rintro e w6 ⟨z0, rfl, hz0, hB6⟩
    have rz0 := Lib.hid hz0.lt
    have s6 := hB6.size
    replace ht := ht.trans (hB6.mono ht.size)
    replace hp0 := hp0.now hB6
    replace hx0 := hx0.now hB6
    replace hg0 := hg0.now hB6
    go_wp2_with fail
    refine (laws_eqFiringS _ _ _ _ _ hx0.lst hz0.lst).mono ?_
    rintro e w7 ⟨rfl, hB7⟩
    have s7 := hB7.size
    replace ht := ht.trans (hB7.mono ht.size)
    replace hp0 := hp0.now hB7
    replace hx0 := hx0.now hB7
    replace hg0 := hg0.now hB7
    replace hz0 := hz0.now hB7
    clear hz0 rz0
    go_wp2_with fail
    refine (laws_markFiringS _ _ _ _ _ hx0 hn0 (by omega) (by omega)).mono ?_
    clear hx0
    rintro e w8 ⟨rfl, hx0, hG⟩
    replace hp0 := own_kept hp0 hG (by intro k hk hk'; have q1 := rp0.out k hk; have q2 := rx0.out k hk'; omega)
    replace hg0 := own_kept hg0 hG (by intro k hk hk'; have q1 := rg0.out k hk; have q2 := rx0.out k hk'; omega)
    replace ht := ht.grown hG ht.size (by intro k hk; have q2 := rx0.out k hk; omega)
    have s8 := hG.size
    clear hG
    go_wp2_with fail
    refine (laws_eqInt64S _ _ _ _ _ hg0.lst hp0.lst).mono ?_
    rintro e w9 ⟨rfl, hB9⟩
    have s9 := hB9.size
    replace ht := ht.trans (hB9.mono ht.size)
    replace hp0 := hp0.now hB9
    replace hx0 := hx0.now hB9
    replace hg0 := hg0.now hB9
    go_wp2_with fail
    clear hx0 rx0
    refine (laws_markInt64S _ _ _ _ _ hg0 hlen0 (by omega) (by omega)).mono ?_
    clear hg0
    rintro e w10 ⟨rfl, hg0, hG⟩
    replace hp0 := own_kept hp0 hG (by intro k hk hk'; have q1 := rp0.out k hk; have q2 := rg0.out k hk'; omega)
    replace ht := ht.grown hG ht.size (by intro k hk; have q2 := rg0.out k hk; omega)
    have s10 := hG.size
    clear hG
    go_wp2_with fail
    refine (laws_heldInt64S _ _ _ _ _ hg0.lst hlen0 (by omega) (by omega)).mono ?_
    rintro e w' ⟨rfl, rfl⟩
    go_wp2_with fail
    refine (laws_toFiringS _ _ _ ((a0.below ht (Nat.le_refl _)).more ht.size) hn0).mono ?_
    rintro e w11 ⟨u0, rfl, hu0, hB11⟩
    have ru0 := Lib.hid hu0.lt
    have s11 := hB11.size
    replace ht := ht.trans (hB11.mono ht.size)
    replace hp0 := hp0.now hB11
    replace hg0 := hg0.now hB11
    go_wp2_with fail
    refine (impl_TimesIn _ _ _ _ hu0.lst ).mono ?_
    rintro e w12 ⟨k0, rfl, hk0, hB12⟩
    have rk0 := Lib.hid hk0.lt
    have s12 := hB12.size
    replace ht := ht.trans (hB12.mono ht.size)
    replace hp0 := hp0.now hB12
    replace hg0 := hg0.now hB12
    replace hu0 := hu0.now hB12
    go_wp2_with fail
    refine (laws_eqInt64S _ _ _ _ _ hk0.lst hp0.lst).mono ?_
    rintro e w13 ⟨rfl, hB13⟩
    have s13 := hB13.size
    replace ht := ht.trans (hB13.mono ht.size)
    replace hp0 := hp0.now hB13
    replace hg0 := hg0.now hB13
    replace hu0 := hu0.now hB13
    replace hk0 := hk0.now hB13
    go_wp2_with fail
    refine (laws_heldInt64S _ _ _ _ _ hg0.lst hlen0 (by omega) (by omega)).mono ?_
    rintro e w' ⟨rfl, rfl⟩
    go_wp2_with fail
    go_ret
    exact ⟨rfl, ht⟩

theorem TimesIn_own : ownKnob Try.prog.godebug = none := by kernel_rfl
theorem TimesIn_laidOut : laidOutB Try.prog = true := by kernel_rfl
set_option maxRecDepth 100000 in
theorem TimesIn_lifted (os : Os) (started : os.Started) (H : Type) (enc : TypeId × Value → H) :
    ReturnsInHanded {} Try.checked os 5 .any (Rows.fnExactTimesInSpec.pre6 enc Try.prog Try.f5 Rows.fnExactTimesInRow.domain false) (Rows.fnExactTimesInSpec.post enc Try.prog Try.f5 false true false false) := by
  refine returnsInHanded_of_change (C := Try.checked) TimesIn_own started (by kernel_rfl) Try.func5
    (ChangeSpec.witness6 (enc := enc) (C := Try.checked) false ⟨#[], #[.slice none 0 0, .int .i64 0], []⟩ 8 (by kernel_rfl) (by kernel_rfl) (by kernel_rfl) (by kernel_rfl)) ?_
  intro W base args ds gs before hval0 hW hcnd _
  have hval : ∀ (j : Nat) t v, Try.f5.params[j]? = some t → args[j]? = some v → Value.okWide Try.prog W .any base t v := hval0
  have hW' := hW
  obtain ⟨p, q, hA0, hV, rfl, hfz, hnd⟩ := hW
  have hA : DataW.TrodAll enc Try.prog W 0 (fun _ => true) true Try.f5.params.toList args.toList ds p := hA0
  rw [Try.params5] at hA hval
  obtain ⟨v0, vs0, d0, ds0, p0, q0, hargs, rfl, rfl, h0, r0⟩ := trodAll_cons hA
  obtain ⟨v1, vs1, d1, ds1, p1, q1, rfl, rfl, rfl, h1, r1⟩ := trodAll_cons r0
  obtain ⟨rfl, rfl, rfl⟩ := trodAll_nil r1
  obtain rfl : args = #[v0, v1] := by cases args; simp_all
  obtain ⟨rfl, rfl⟩ := trodVars_none hV
  have k0 := h0
  have lt0 : ∀ x ∈ p0, x.block < W.heap.size := by obtain ⟨m, hm⟩ := k0; exact DataW.trod_lt m _ _ _ hm
  have k1 := h1
  have lt1 : ∀ x ∈ p1, x.block < W.heap.size := by obtain ⟨m, hm⟩ := k1; exact DataW.trod_lt m _ _ _ hm
  obtain ⟨A0, n0, c0, rfl⟩ := okWide_slice Try.underlying30 (hval 0 30 v0 rfl rfl)
  obtain ⟨fuel0, hf0⟩ := h0
  obtain ⟨len0, z0, hR0⟩ := open_structs Try.underlying30 Try.underlying67 (by kernel_rfl) (by kernel_rfl) (by decide) (by intro j f hj; match j, hj with | 0, hj => (injection hj with hj; subst hj; exact Try.underlying2) | 1, hj => (injection hj with hj; subst hj; exact Try.underlying2) | 2, hj => (injection hj with hj; subst hj; exact Try.underlying2) | n + 3, hj => simp at hj) (by simpa [Value.cells] using hf0)
  have a0 := rows_lst Firing.cells Firing.cells_len (fun i => ⟨z0 i 0, z0 i 1, z0 i 2⟩) (by intro i j hj; match j, hj with | 0, _ => rfl | 1, _ => rfl | 2, _ => rfl | n + 3, hj => omega) hR0
  have o0 : Hid (∀ x ∈ (List.range len0).map fun i => (⟨z0 i 0, z0 i 1, z0 i 2⟩ : Firing), x.ok) := by
    intro x hx
    obtain ⟨i, hi, rfl⟩ := List.mem_map.1 hx
    have hi := List.mem_range.1 hi
    exact ⟨hR0.2.2 i 0 hi (by decide), hR0.2.2 i 1 hi (by decide), hR0.2.2 i 2 hi (by decide)⟩
  obtain ⟨a1, rfl, rfl, rfl, w1⟩ := open_int Try.underlying2 (hval 1 2 v1 rfl rfl) h1
  have o1 : Hid (i64ok a1) := wf_i64ok w1
  clear hA0 hval0
  refine (law_TimesIn _ _ _ W a0 o0 o1).mono fun e W' ⟨he, bel⟩ => ?_
  subst he
  exact ⟨_, rfl, _, _, _, [], _, [], hW', trodAll_mk1 (shut_bool Try.underlying4 _), (trodAll_cons_mk (Below.trod TimesIn_laidOut (by kernel_rfl) (of_decide_eq_true (by kernel_rfl)) k0 bel lt0) (trodAll_cons_mk (Below.trod TimesIn_laidOut (by kernel_rfl) (of_decide_eq_true (by kernel_rfl)) k1 bel lt1) trodAll_mk0)), rfl, bel.frame _, fun h => by cases h⟩
theorem TimesIn_over : Rows.fnExactTimesInRow.holds Try.pinned (OpenSpec.ofChange Rows.fnExactTimesInSpec) :=
  OpenClaim.holds_of_wide 5 Try.f5 rfl rfl rfl rfl rfl rfl rfl ⟨rfl, rfl, rfl, rfl, rfl⟩ rfl rfl rfl rfl rfl (by kernel_rfl) Try.func5 (by kernel_rfl)
    (of_decide_eq_true (by kernel_rfl)) (by unfold Func.isWrapper; first | (rw [if_pos (by decide +kernel)]; kernel_rfl) | (rw [if_neg (by decide +kernel)]; exact ⟨rfl, rfl⟩))
    (fun os started H enc _ => TimesIn_lifted os started H enc)
/-- The given statement. -/
theorem TimesIn_proved : Rows.FnExactTimesInSaid := TimesIn_over
end Go.Proofs.Ytdhlhabkonfhfaa
