/-
  FnExactIsEventName returns true for every input: the program's IsEventName gives what the reference's gives (1 to 8 bytes, all from a to z); nothing that was there turns.
  Conditions: none beyond the statement's own.
-/
import Derived.Test.YtdhlhabkonfhfaaName
import Derived.Test.YtdhlhabkonfhfaaOpen
namespace Go.Proofs.Ytdhlhabkonfhfaa
open Go.RowKit Go.ChangeShapes Go.WideShapes Go.ChangeAt Go.Deep
set_option linter.unusedVariables false
set_option linter.unusedSimpArgs false

set_option maxHeartbeats 4000000 in
set_option maxRecDepth 100000 in
theorem law_IsEventName (s : ByteArray) (w : World)  (o0 : Hid (s.size ≤ maxLen)) :
    Calls Try.prog 3 #[.string s] w fun e w' => e = .returned (.bool true) ∧ Below w.heap.size w w' := by
  by_cases hp0 : 1048576 < s.size
  · have hpb : decide ((1048576 : Int) < s.size) = true := by simp; omega
    go_enter Try.func3, Try.ntmps3
    go_wp2_with fail
    go_ret
    exact ⟨rfl, Below.refl _ _⟩
  · have hpb0 : decide ((1048576 : Int) < s.size) = false := by simp; omega
    have hn0 : s.size ≤ 1048576 := by omega
    go_enter Try.func3, Try.ntmps3
    go_wp2_with fail
    refine (spec_IsEventName _ _  o0).mono ?_
    rintro e w1 ⟨rfl, hB1⟩
    have s1 := hB1.size
    have ht := hB1
    go_wp2_with fail
    refine (impl_IsEventName _ _  o0).mono ?_
    rintro e w2 ⟨rfl, hB2⟩
    have s2 := hB2.size
    replace ht := ht.trans (hB2.mono ht.size)
    go_wp2_with fail
    go_ret
    exact ⟨rfl, ht⟩

theorem IsEventName_own : ownKnob Try.prog.godebug = none := by kernel_rfl
theorem IsEventName_laidOut : laidOutB Try.prog = true := by kernel_rfl
set_option maxRecDepth 100000 in
theorem IsEventName_lifted (os : Os) (started : os.Started) (H : Type) (enc : TypeId × Value → H) :
    ReturnsInHanded {} Try.checked os 3 .any (Rows.fnExactIsEventNameSpec.pre6 enc Try.prog Try.f3 Rows.fnExactIsEventNameRow.domain false) (Rows.fnExactIsEventNameSpec.post enc Try.prog Try.f3 false true false false) := by
  refine returnsInHanded_of_change (C := Try.checked) IsEventName_own started (by kernel_rfl) Try.func3
    (ChangeSpec.witness6 (enc := enc) (C := Try.checked) false ⟨#[], #[.string ByteArray.empty], []⟩ 8 (by kernel_rfl) (by kernel_rfl) (by kernel_rfl) (by kernel_rfl)) ?_
  intro W base args ds gs before hval0 hW hcnd _
  have hval : ∀ (j : Nat) t v, Try.f3.params[j]? = some t → args[j]? = some v → Value.okWide Try.prog W .any base t v := hval0
  have hW' := hW
  obtain ⟨p, q, hA0, hV, rfl, hfz, hnd⟩ := hW
  have hA : DataW.TrodAll enc Try.prog W 0 (fun _ => true) true Try.f3.params.toList args.toList ds p := hA0
  rw [Try.params3] at hA hval
  obtain ⟨v0, vs0, d0, ds0, p0, q0, hargs, rfl, rfl, h0, r0⟩ := trodAll_cons hA
  obtain ⟨rfl, rfl, rfl⟩ := trodAll_nil r0
  obtain rfl : args = #[v0] := by cases args; simp_all
  obtain ⟨rfl, rfl⟩ := trodVars_none hV
  have k0 := h0
  have lt0 : ∀ x ∈ p0, x.block < W.heap.size := by obtain ⟨m, hm⟩ := k0; exact DataW.trod_lt m _ _ _ hm
  obtain ⟨a0, rfl, rfl, rfl, w0⟩ := Go.ChangeMaps.open_string Try.underlying9 (hval 0 9 v0 rfl rfl) h0
  have o0 : Hid (a0.size ≤ maxLen) := w0
  clear hA0 hval0
  refine (law_IsEventName _ W  o0).mono fun e W' ⟨he, bel⟩ => ?_
  subst he
  exact ⟨_, rfl, _, _, _, [], _, [], hW', trodAll_mk1 (shut_bool Try.underlying4 _), (trodAll_cons_mk (Below.trod IsEventName_laidOut (by kernel_rfl) (of_decide_eq_true (by kernel_rfl)) k0 bel lt0) trodAll_mk0), rfl, bel.frame _, fun h => by cases h⟩
theorem IsEventName_over : Rows.fnExactIsEventNameRow.holds Try.pinned (OpenSpec.ofChange Rows.fnExactIsEventNameSpec) :=
  OpenClaim.holds_of_wide 3 Try.f3 rfl rfl rfl rfl rfl rfl rfl ⟨rfl, rfl, rfl, rfl, rfl⟩ rfl rfl rfl rfl rfl (by kernel_rfl) Try.func3 (by kernel_rfl)
    (of_decide_eq_true (by kernel_rfl)) (by unfold Func.isWrapper; first | (rw [if_pos (by decide +kernel)]; kernel_rfl) | (rw [if_neg (by decide +kernel)]; exact ⟨rfl, rfl⟩))
    (fun os started H enc _ => IsEventName_lifted os started H enc)
/-- The given statement. -/
theorem IsEventName_proved : Rows.FnExactIsEventNameSaid := IsEventName_over
end Go.Proofs.Ytdhlhabkonfhfaa
