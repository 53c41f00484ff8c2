/-
  FnExactEventNamed returns true for every input: the program's EventNamed gives what the reference's gives (the first index of a name); nothing that was there turns.
  Conditions: none beyond the statement's own.
-/
import Derived.Test.YtdhlhabkonfhfaaName
import Derived.Test.YtdhlhabkonfhfaaOpen
namespace Go.Proofs.Ytdhlhabkonfhfaa
open Go.RowKit Go.ChangeShapes Go.WideShapes Go.ChangeAt Go.Deep
set_option linter.unusedVariables false
set_option linter.unusedSimpArgs false

set_option maxHeartbeats 4000000 in
set_option maxRecDepth 100000 in
theorem law_EventNamed (v : Value) (l : List ByteArray) (s : ByteArray) (w : World) (a0 : Lst strCell 1 w w.heap.size v l) (o0 : Hid (∀ s ∈ l, s.size ≤ maxLen)) (o1 : Hid (s.size ≤ maxLen)) :
    Calls Try.prog 4 #[v, .string s] w fun e w' => e = .returned (.bool true) ∧ Below w.heap.size w w' := by
  by_cases hp0 : 1048576 < s.size
  · have hpb : decide ((1048576 : Int) < s.size) = true := by simp; omega
    go_enter Try.func4, Try.ntmps4
    go_wp2_with fail
    go_ret
    exact ⟨rfl, Below.refl _ _⟩
  · have hpb0 : decide ((1048576 : Int) < s.size) = false := by simp; omega
    have hn1 : s.size ≤ 1048576 := by omega
    by_cases hs0 : (1048576 : Int) < ((l.length : Int) + sumSz l)
    · have hz : (if (1048576 : Int) < ((l.length : Int) + sumSz l) then (-1 : Int) else (1048576 : Int) - l.length - sumSz l) = -1 := if_pos hs0
      go_enter Try.func4, Try.ntmps4
      go_wp2_with fail
      refine (laws_szStringS _ _ _ _ _ a0 (by omega) (by omega) o0).mono ?_
      rintro e w' ⟨rfl, rfl⟩
      go_wp2_with fail
      go_ret
      exact ⟨rfl, Below.refl _ _⟩
    · have hz0 : (if (1048576 : Int) < ((l.length : Int) + sumSz l) then (-1 : Int) else (1048576 : Int) - l.length - sumSz l) = (1048576 : Int) - l.length - sumSz l := if_neg hs0
      have hn0 : l.length + sumSz l ≤ 1048576 := by omega
      go_enter Try.func4, Try.ntmps4
      go_wp2_with fail
      refine (laws_szStringS _ _ _ _ _ a0 (by omega) (by omega) o0).mono ?_
      rintro e w' ⟨rfl, rfl⟩
      go_wp2_with fail
      refine (laws_toStringS _ _ _ a0 hn0).mono ?_
      rintro e w1 ⟨y0, rfl, hy0, hB1⟩
      have ry0 := Lib.hid hy0.lt
      have s1 := hB1.size
      have ht := hB1
      go_wp2_with fail
      refine (spec_EventNamed _ _ _ _ hy0.lst ).mono ?_
      rintro e w2 ⟨rfl, hB2⟩
      have s2 := hB2.size
      replace ht := ht.trans (hB2.mono ht.size)
      replace hy0 := hy0.now hB2
      go_wp2_with fail
      clear hy0 ry0
      refine (laws_toStringS _ _ _ ((a0.below ht (Nat.le_refl _)).more ht.size) hn0).mono ?_
      rintro e w3 ⟨x0, rfl, hx0, hB3⟩
      have rx0 := Lib.hid hx0.lt
      have s3 := hB3.size
      replace ht := ht.trans (hB3.mono ht.size)
      go_wp2_with fail
      refine (impl_EventNamed _ _ _ _ hx0.lst ).mono ?_
      rintro e w4 ⟨rfl, hB4⟩
      have s4 := hB4.size
      replace ht := ht.trans (hB4.mono ht.size)
      replace hx0 := hx0.now hB4
      go_wp2_with fail
      refine (laws_toStringS _ _ _ ((a0.below ht (Nat.le_refl _)).more ht.size) hn0).mono ?_
      rintro e w5 ⟨z0, rfl, hz0, hB5⟩
      have rz0 := Lib.hid hz0.lt
      have s5 := hB5.size
      replace ht := ht.trans (hB5.mono ht.size)
      replace hx0 := hx0.now hB5
      go_wp2_with fail
      refine (laws_eqStringS _ _ _ _ _ hx0.lst hz0.lst).mono ?_
      rintro e w6 ⟨rfl, hB6⟩
      have s6 := hB6.size
      replace ht := ht.trans (hB6.mono ht.size)
      replace hx0 := hx0.now hB6
      replace hz0 := hz0.now hB6
      clear hz0 rz0
      go_wp2_with fail
      go_ret
      exact ⟨rfl, ht⟩

theorem EventNamed_own : ownKnob Try.prog.godebug = none := by kernel_rfl
theorem EventNamed_laidOut : laidOutB Try.prog = true := by kernel_rfl
set_option maxRecDepth 100000 in
theorem EventNamed_lifted (os : Os) (started : os.Started) (H : Type) (enc : TypeId × Value → H) :
    ReturnsInHanded {} Try.checked os 4 .any (Rows.fnExactEventNamedSpec.pre6 enc Try.prog Try.f4 Rows.fnExactEventNamedRow.domain false) (Rows.fnExactEventNamedSpec.post enc Try.prog Try.f4 false true false false) := by
  refine returnsInHanded_of_change (C := Try.checked) EventNamed_own started (by kernel_rfl) Try.func4
    (ChangeSpec.witness6 (enc := enc) (C := Try.checked) false ⟨#[], #[.slice none 0 0, .string ByteArray.empty], []⟩ 8 (by kernel_rfl) (by kernel_rfl) (by kernel_rfl) (by kernel_rfl)) ?_
  intro W base args ds gs before hval0 hW hcnd _
  have hval : ∀ (j : Nat) t v, Try.f4.params[j]? = some t → args[j]? = some v → Value.okWide Try.prog W .any base t v := hval0
  have hW' := hW
  obtain ⟨p, q, hA0, hV, rfl, hfz, hnd⟩ := hW
  have hA : DataW.TrodAll enc Try.prog W 0 (fun _ => true) true Try.f4.params.toList args.toList ds p := hA0
  rw [Try.params4] at hA hval
  obtain ⟨v0, vs0, d0, ds0, p0, q0, hargs, rfl, rfl, h0, r0⟩ := trodAll_cons hA
  obtain ⟨v1, vs1, d1, ds1, p1, q1, rfl, rfl, rfl, h1, r1⟩ := trodAll_cons r0
  obtain ⟨rfl, rfl, rfl⟩ := trodAll_nil r1
  obtain rfl : args = #[v0, v1] := by cases args; simp_all
  obtain ⟨rfl, rfl⟩ := trodVars_none hV
  have k0 := h0
  have lt0 : ∀ x ∈ p0, x.block < W.heap.size := by obtain ⟨m, hm⟩ := k0; exact DataW.trod_lt m _ _ _ hm
  have k1 := h1
  have lt1 : ∀ x ∈ p1, x.block < W.heap.size := by obtain ⟨m, hm⟩ := k1; exact DataW.trod_lt m _ _ _ hm
  obtain ⟨A0, n0, c0, rfl⟩ := okWide_slice Try.underlying23 (hval 0 23 v0 rfl rfl)
  obtain ⟨fuel0, hf0⟩ := h0
  obtain ⟨l0, a0, o0⟩ := open_strs Try.underlying23 Try.underlying9 (by kernel_rfl) (show DataW.trod enc Try.prog W 0 (fun _ => true) true fuel0 23 [_] = _ by simpa [Value.cells] using hf0)
  obtain ⟨a1, rfl, rfl, rfl, w1⟩ := Go.ChangeMaps.open_string Try.underlying9 (hval 1 9 v1 rfl rfl) h1
  have o1 : Hid (a1.size ≤ maxLen) := w1
  clear hA0 hval0
  refine (law_EventNamed _ _ _ W a0 o0 o1).mono fun e W' ⟨he, bel⟩ => ?_
  subst he
  exact ⟨_, rfl, _, _, _, [], _, [], hW', trodAll_mk1 (shut_bool Try.underlying4 _), (trodAll_cons_mk (Below.trod EventNamed_laidOut (by kernel_rfl) (of_decide_eq_true (by kernel_rfl)) k0 bel lt0) (trodAll_cons_mk (Below.trod EventNamed_laidOut (by kernel_rfl) (of_decide_eq_true (by kernel_rfl)) k1 bel lt1) trodAll_mk0)), rfl, bel.frame _, fun h => by cases h⟩
theorem EventNamed_over : Rows.fnExactEventNamedRow.holds Try.pinned (OpenSpec.ofChange Rows.fnExactEventNamedSpec) :=
  OpenClaim.holds_of_wide 4 Try.f4 rfl rfl rfl rfl rfl rfl rfl ⟨rfl, rfl, rfl, rfl, rfl⟩ rfl rfl rfl rfl rfl (by kernel_rfl) Try.func4 (by kernel_rfl)
    (of_decide_eq_true (by kernel_rfl)) (by unfold Func.isWrapper; first | (rw [if_pos (by decide +kernel)]; kernel_rfl) | (rw [if_neg (by decide +kernel)]; exact ⟨rfl, rfl⟩))
    (fun os started H enc _ => EventNamed_lifted os started H enc)
/-- The given statement. -/
theorem EventNamed_proved : Rows.FnExactEventNamedSaid := EventNamed_over
end Go.Proofs.Ytdhlhabkonfhfaa
