/-
  FnExactRoomTimes returns true for every input: the program's RoomTimes gives what the reference's gives (the cycle times of all rooms); nothing that was there turns.
  Conditions: none beyond the statement's own.
-/
import Derived.Test.YtkbhbmoogkjafaaRoomT
import Derived.Test.YtkbhbmoogkjafaaRatS
import Derived.Test.YtkbhbmoogkjafaaGLaw
import Derived.Test.YtkbhbmoogkjafaaOpen
namespace Go.Proofs.Ytkbhbmoogkjafaa
open Go.RowKit Go.ChangeShapes Go.WideShapes Go.ChangeAt Go.Deep
set_option linter.unusedVariables false
set_option linter.unusedSimpArgs false

set_option maxHeartbeats 4000000 in
set_option maxRecDepth 100000 in
theorem law_RoomTimes (v : Value) (ge : Int) (gp : List Place) (t : Int) (w : World) (a0 : Lst Place.cells 4 w w.heap.size v gp) (o0 : Hid (i64ok ge ∧ ∀ x ∈ gp, x.ok)) (o1 : Hid (i64ok t)) :
    Calls Try.prog 8 #[.agg #[.int .i64 ge, v], .int .i64 t] w fun e w' => e = .returned (.bool true) ∧ Below w.heap.size w w' := by
  have b0 := (Lst.alloc a0 (.cells #[.int .i64 ge, v] 70))
  have ht : Below (w.alloc (.cells #[.int .i64 ge, v] 70)).heap.size (w.alloc (.cells #[.int .i64 ge, v] 70)) (w.alloc (.cells #[.int .i64 ge, v] 70)) := Below.refl _ _
  by_cases hs0 : (1048576 : Int) < gp.length
  · have hz : (if (1048576 : Int) < gp.length then (-1 : Int) else (1048576 : Int) - gp.length) = -1 := if_pos hs0
    go_enter Try.func8, Try.ntmps8
    go_wp2_with fail
    have ka00 : (w.alloc (.cells #[.int .i64 ge, v] 70)).cell? ⟨w.heap.size, 0, none⟩ = some (.int .i64 ge) := by simp
    have ka01 : (w.alloc (.cells #[.int .i64 ge, v] 70)).cell? ⟨w.heap.size, 1, none⟩ = some (v) := by simp
    refine (laws_szEventGraph _ _ _ _ _ ((b0.below ht (Nat.le_refl _)).more ht.size) (by omega) (by omega)).mono ?_
    rintro e w1 ⟨rfl, hB1⟩
    have s1 := hB1.size
    replace ht := ht.trans (hB1.mono ht.size)
    replace ka00 := cell_keep ka00 hB1
    replace ka01 := cell_keep ka01 hB1
    go_wp2_with fail
    go_ret
    exact ⟨rfl, (by repeat (first | exact Below.refl _ _ | refine Below.drew ?_ | refine Below.alloc ?_ (by first | omega | (simp; done) | (simp; omega) | (have q0 := ht.size; simp at q0; omega) | (have q0 := ht.size; simp at q0 ⊢; omega)) _ | refine Below.setCell ?_ (by first | omega | (simp; done) | (simp; omega) | (have q0 := ht.size; simp at q0; omega) | (have q0 := ht.size; simp at q0 ⊢; omega)) _ | refine Below.trans ?_ (Below.mono ht (by first | omega | (simp; done) | (simp; omega) | (have q0 := ht.size; simp at q0; omega) | (have q0 := ht.size; simp at q0 ⊢; omega)))))⟩
  · have hz0 : (if (1048576 : Int) < gp.length then (-1 : Int) else (1048576 : Int) - gp.length) = (1048576 : Int) - gp.length := if_neg hs0
    have hn0 : gp.length ≤ 1048576 := by omega
    have hlen0 : (roomTF ge gp t).1.length ≤ 1048576 := roomTF_len ge gp t
    go_enter Try.func8, Try.ntmps8
    go_wp2_with fail
    have ka00 : (w.alloc (.cells #[.int .i64 ge, v] 70)).cell? ⟨w.heap.size, 0, none⟩ = some (.int .i64 ge) := by simp
    have ka01 : (w.alloc (.cells #[.int .i64 ge, v] 70)).cell? ⟨w.heap.size, 1, none⟩ = some (v) := by simp
    refine (laws_szEventGraph _ _ _ _ _ ((b0.below ht (Nat.le_refl _)).more ht.size) (by omega) (by omega)).mono ?_
    rintro e w1 ⟨rfl, hB1⟩
    have s1 := hB1.size
    replace ht := ht.trans (hB1.mono ht.size)
    replace ka00 := cell_keep ka00 hB1
    replace ka01 := cell_keep ka01 hB1
    go_wp2_with fail
    refine (laws_toEventGraph _ _ _ _ ((b0.below ht (Nat.le_refl _)).more ht.size) hn0).mono ?_
    rintro e w2 ⟨y0, rfl, hy0, hB2⟩
    obtain ⟨Ay0, cy0, rfl⟩ := hy0.shape
    have ry0 := Lib.hid hy0.lt
    have s2 := hB2.size
    replace ht := ht.trans (hB2.mono ht.size)
    replace ka00 := cell_keep ka00 hB2
    replace ka01 := cell_keep ka01 hB2
    go_wp2_with fail
    refine (spec_RoomTimes _ _ _ _ _ hy0.lst ).mono ?_
    rintro e w3 ⟨p0, rfl, hp0, hB3⟩
    obtain ⟨Ap0, cp0, rfl⟩ := hp0.shape
    have rp0 := Lib.hid hp0.lt
    have s3 := hB3.size
    replace ht := ht.trans (hB3.mono ht.size)
    replace hy0 := hy0.now hB3
    replace ka00 := cell_keep ka00 hB3
    replace ka01 := cell_keep ka01 hB3
    go_wp2_with fail
    clear hy0 ry0
    refine (laws_toEventGraph _ _ _ _ ((b0.below ht (Nat.le_refl _)).more ht.size) hn0).mono ?_
    rintro e w4 ⟨x0, rfl, hx0, hB4⟩
    obtain ⟨Ax0, cx0, rfl⟩ := hx0.shape
    have rx0 := Lib.hid hx0.lt
    have s4 := hB4.size
    replace ht := ht.trans (hB4.mono ht.size)
    replace hp0 := hp0.now hB4
    replace ka00 := cell_keep ka00 hB4
    replace ka01 := cell_keep ka01 hB4
    have hA1 : Below w4.heap.size w4 (w4.alloc (.cells #[.int .i64 ge, .slice Ax0 gp.length cx0] 26)) := (Below.refl _ _).alloc (Nat.le_refl _) _
    have sA1 : w4.heap.size < (w4.alloc (.cells #[.int .i64 ge, .slice Ax0 gp.length cx0] 26)).heap.size := by simp
    replace ht := ht.trans (hA1.mono ht.size)
    replace hp0 := hp0.now hA1
    replace hx0 := hx0.now hA1
    replace ka00 := cell_keep ka00 hA1
    replace ka01 := cell_keep ka01 hA1
    have kx00 : (w4.alloc (.cells #[.int .i64 ge, .slice Ax0 gp.length cx0] 26)).cell? ⟨w4.heap.size, 0, none⟩ = some (.int .i64 ge) := by simp
    have kx01 : (w4.alloc (.cells #[.int .i64 ge, .slice Ax0 gp.length cx0] 26)).cell? ⟨w4.heap.size, 1, none⟩ = some (.slice Ax0 gp.length cx0) := by simp
    clear hA1
    go_wp2_with fail
    refine (impl_RoomTimes _ _ _ _ _ hx0.lst ).mono ?_
    rintro e w5 ⟨g0, rfl, hg0, hB5⟩
    obtain ⟨Ag0, cg0, rfl⟩ := hg0.shape
    have rg0 := Lib.hid hg0.lt
    have s5 := hB5.size
    replace ht := ht.trans (hB5.mono ht.size)
    replace hp0 := hp0.now hB5
    replace hx0 := hx0.now hB5
    replace ka00 := cell_keep ka00 hB5
    replace ka01 := cell_keep ka01 hB5
    replace kx00 := cell_keep kx00 hB5
    replace kx01 := cell_keep kx01 hB5
    go_wp2_with fail
    refine (laws_eqRatioS _ _ _ _ _ hg0.lst hp0.lst).mono ?_
    rintro e w6 ⟨rfl, hB6⟩
    have s6 := hB6.size
    replace ht := ht.trans (hB6.mono ht.size)
    replace hp0 := hp0.now hB6
    replace hx0 := hx0.now hB6
    replace hg0 := hg0.now hB6
    replace ka00 := cell_keep ka00 hB6
    replace ka01 := cell_keep ka01 hB6
    replace kx00 := cell_keep kx00 hB6
    replace kx01 := cell_keep kx01 hB6
    go_wp2_with fail
    have hbz := ((b0.below ht (Nat.le_refl _)).more ht.size)
    go_region_held3 (fun w' => w'.cell? ⟨w4.heap.size, 0, none⟩ = some (.int .i64 ge) ∧ w'.cell? ⟨w4.heap.size, 1, none⟩ = some (.slice Ax0 gp.length cx0) ∧ w'.cell? ⟨w.heap.size, 0, none⟩ = some (.int .i64 ge) ∧ w'.cell? ⟨w.heap.size, 1, none⟩ = some (v)) (first | exact ⟨kx00, kx01, ka00, ka01⟩ | exact ⟨fkx00, fkx01, fka00, fka01⟩ | exact ⟨ekx00, ekx01, eka00, eka01⟩ | go_keep) (first | (go_at_call 59; refine (laws_toEventGraph _ _ _ _ (show Lst Place.cells 4 w6.drew w6.drew.heap.size _ _ from hbz) hn0).mono ?_; rintro e w7 ⟨z0, rfl, hz0, hB7⟩; have fkx00 := cell_keep (w := w6.drew) kx00 hB7; have fkx01 := cell_keep (w := w6.drew) kx01 hB7; have fka00 := cell_keep (w := w6.drew) ka00 hB7; have fka01 := cell_keep (w := w6.drew) ka01 hB7) | (go_at_call 62; refine (laws_eqEventGraph _ _ _ _ _ _ _ (Lst.now (w := w6.drew) hx0.lst hB7) hz0.lst).mono ?_; rintro e w8 ⟨rfl, hB8⟩; have ekx00 := cell_keep fkx00 hB8; have ekx01 := cell_keep fkx01 hB8; have eka00 := cell_keep fka00 hB8; have eka01 := cell_keep fka01 hB8))
    clear fkx00 fkx01 fka00 fka01 ekx00 ekx01 eka00 eka01
    have s7 := Below.size (w := w6.drew) hB7
    have dq7 : w6.drew.heap.size = w6.heap.size := rfl
    have s8 := hB8.size
    have hD : Below w6.heap.size w6 w8 := ((Below.refl _ w6).drew.trans hB7).trans (hB8.mono s7)
    replace ht := ht.trans (hD.mono ht.size)
    replace hp0 := hp0.now hD
    replace hx0 := hx0.now hD
    replace hg0 := hg0.now hD
    replace ka00 := cell_keep ka00 hD
    replace ka01 := cell_keep ka01 hD
    replace kx00 := cell_keep kx00 hD
    replace kx01 := cell_keep kx01 hD
    clear hD
    go_wp2_with fail
    refine (laws_markEventGraph _ _ _ _ _ _ hx0 hn0 (by omega) (by omega)).mono ?_
    clear hx0
    rintro e w9 ⟨rfl, hx0, hG⟩
    replace hp0 := own_kept hp0 hG (by intro k hk hk'; have q1 := rp0.out k hk; have q2 := rx0.out k hk'; omega)
    replace hg0 := own_kept hg0 hG (by intro k hk hk'; have q1 := rg0.out k hk; have q2 := rx0.out k hk'; omega)
    replace ka00 := cell_kept ka00 hG (by intro hk; have q2 := rx0.out _ hk; simp at * <;> omega)
    replace ka01 := cell_kept ka01 hG (by intro hk; have q2 := rx0.out _ hk; simp at * <;> omega)
    replace kx00 := cell_kept kx00 hG (by intro hk; have q2 := rx0.out _ hk; simp at * <;> omega)
    replace kx01 := cell_kept kx01 hG (by intro hk; have q2 := rx0.out _ hk; simp at * <;> omega)
    replace ht := ht.grown hG ht.size (by intro k hk; have q2 := rx0.out k hk; omega)
    have s9 := hG.size
    clear hG
    go_wp2_with fail
    refine (laws_eqRatioS _ _ _ _ _ hg0.lst hp0.lst).mono ?_
    rintro e w10 ⟨rfl, hB10⟩
    have s10 := hB10.size
    replace ht := ht.trans (hB10.mono ht.size)
    replace hp0 := hp0.now hB10
    replace hx0 := hx0.now hB10
    replace hg0 := hg0.now hB10
    replace ka00 := cell_keep ka00 hB10
    replace ka01 := cell_keep ka01 hB10
    replace kx00 := cell_keep kx00 hB10
    replace kx01 := cell_keep kx01 hB10
    go_wp2_with fail
    clear hx0 rx0
    refine (laws_markRatioS _ _ _ _ _ hg0 hlen0 (by omega) (by omega)).mono ?_
    clear hg0
    rintro e w11 ⟨rfl, hg0, hG⟩
    replace hp0 := own_kept hp0 hG (by intro k hk hk'; have q1 := rp0.out k hk; have q2 := rg0.out k hk'; omega)
    replace ka00 := cell_kept ka00 hG (by intro hk; have q2 := rg0.out _ hk; simp at * <;> omega)
    replace ka01 := cell_kept ka01 hG (by intro hk; have q2 := rg0.out _ hk; simp at * <;> omega)
    replace kx00 := cell_kept kx00 hG (by intro hk; have q2 := rg0.out _ hk; simp at * <;> omega)
    replace kx01 := cell_kept kx01 hG (by intro hk; have q2 := rg0.out _ hk; simp at * <;> omega)
    replace ht := ht.grown hG ht.size (by intro k hk; have q2 := rg0.out k hk; omega)
    have s11 := hG.size
    clear hG
    go_wp2_with fail
    refine (laws_heldRatioS _ _ _ _ _ hg0.lst hlen0 (by omega) (by omega)).mono ?_
    rintro e w' ⟨rfl, rfl⟩
    go_wp2_with fail
    refine (laws_toEventGraph _ _ _ _ ((b0.below ht (Nat.le_refl _)).more ht.size) hn0).mono ?_
    rintro e w12 ⟨t0, rfl, ht0, hB12⟩
    obtain ⟨At0, ct0, rfl⟩ := ht0.shape
    have rt0 := Lib.hid ht0.lt
    have s12 := hB12.size
    replace ht := ht.trans (hB12.mono ht.size)
    replace hp0 := hp0.now hB12
    replace hg0 := hg0.now hB12
    replace ka00 := cell_keep ka00 hB12
    replace ka01 := cell_keep ka01 hB12
    replace kx00 := cell_keep kx00 hB12
    replace kx01 := cell_keep kx01 hB12
    go_wp2_with fail
    refine (impl_RoomTimes _ _ _ _ _ ht0.lst ).mono ?_
    rintro e w13 ⟨k0, rfl, hk0, hB13⟩
    obtain ⟨Ak0, ck0, rfl⟩ := hk0.shape
    have rk0 := Lib.hid hk0.lt
    have s13 := hB13.size
    replace ht := ht.trans (hB13.mono ht.size)
    replace hp0 := hp0.now hB13
    replace hg0 := hg0.now hB13
    replace ht0 := ht0.now hB13
    replace ka00 := cell_keep ka00 hB13
    replace ka01 := cell_keep ka01 hB13
    replace kx00 := cell_keep kx00 hB13
    replace kx01 := cell_keep kx01 hB13
    go_wp2_with fail
    refine (laws_eqRatioS _ _ _ _ _ hk0.lst hp0.lst).mono ?_
    rintro e w14 ⟨rfl, hB14⟩
    have s14 := hB14.size
    replace ht := ht.trans (hB14.mono ht.size)
    replace hp0 := hp0.now hB14
    replace hg0 := hg0.now hB14
    replace ht0 := ht0.now hB14
    replace hk0 := hk0.now hB14
    replace ka00 := cell_keep ka00 hB14
    replace ka01 := cell_keep ka01 hB14
    replace kx00 := cell_keep kx00 hB14
    replace kx01 := cell_keep kx01 hB14
    go_wp2_with fail
    refine (laws_heldRatioS _ _ _ _ _ hg0.lst hlen0 (by omega) (by omega)).mono ?_
    rintro e w' ⟨rfl, rfl⟩
    go_wp2_with fail
    go_ret
    exact ⟨rfl, (by repeat (first | exact Below.refl _ _ | refine Below.drew ?_ | refine Below.alloc ?_ (by first | omega | (simp; done) | (simp; omega) | (have q0 := ht.size; simp at q0; omega) | (have q0 := ht.size; simp at q0 ⊢; omega)) _ | refine Below.setCell ?_ (by first | omega | (simp; done) | (simp; omega) | (have q0 := ht.size; simp at q0; omega) | (have q0 := ht.size; simp at q0 ⊢; omega)) _ | refine Below.trans ?_ (Below.mono ht (by first | omega | (simp; done) | (simp; omega) | (have q0 := ht.size; simp at q0; omega) | (have q0 := ht.size; simp at q0 ⊢; omega)))))⟩

theorem RoomTimes_own : ownKnob Try.prog.godebug = none := by kernel_rfl
theorem RoomTimes_laidOut : laidOutB Try.prog = true := by kernel_rfl
set_option maxRecDepth 100000 in
theorem RoomTimes_lifted (os : Os) (started : os.Started) (H : Type) (enc : TypeId × Value → H) :
    ReturnsInHanded {} Try.checked os 8 .any (Rows.fnExactRoomTimesSpec.pre6 enc Try.prog Try.f8 Rows.fnExactRoomTimesRow.domain false) (Rows.fnExactRoomTimesSpec.post enc Try.prog Try.f8 false true false false) := by
  refine returnsInHanded_of_change (C := Try.checked) RoomTimes_own started (by kernel_rfl) Try.func8
    (ChangeSpec.witness6 (enc := enc) (C := Try.checked) false ⟨#[], #[.agg #[.int .i64 0, .slice none 0 0], .int .i64 0], []⟩ 8 (by kernel_rfl) (by kernel_rfl) (by kernel_rfl) (by kernel_rfl)) ?_
  intro W base args ds gs before hval0 hW hcnd _
  have hval : ∀ (j : Nat) t v, Try.f8.params[j]? = some t → args[j]? = some v → Value.okWide Try.prog W .any base t v := hval0
  have hW' := hW
  obtain ⟨p, q, hA0, hV, rfl, hfz, hnd⟩ := hW
  have hA : DataW.TrodAll enc Try.prog W 0 (fun _ => true) true Try.f8.params.toList args.toList ds p := hA0
  rw [Try.params8] at hA hval
  obtain ⟨v0, vs0, d0, ds0, p0, q0, hargs, rfl, rfl, h0, r0⟩ := trodAll_cons hA
  obtain ⟨v1, vs1, d1, ds1, p1, q1, rfl, rfl, rfl, h1, r1⟩ := trodAll_cons r0
  obtain ⟨rfl, rfl, rfl⟩ := trodAll_nil r1
  obtain rfl : args = #[v0, v1] := by cases args; simp_all
  obtain ⟨rfl, rfl⟩ := trodVars_none hV
  have k0 := h0
  have lt0 : ∀ x ∈ p0, x.block < W.heap.size := by obtain ⟨m, hm⟩ := k0; exact DataW.trod_lt m _ _ _ hm
  have k1 := h1
  have lt1 : ∀ x ∈ p1, x.block < W.heap.size := by obtain ⟨m, hm⟩ := k1; exact DataW.trod_lt m _ _ _ hm
  obtain ⟨e0, s0, y0, u0, fl0, rfl, _, _, hy0, hu0⟩ := Joins.open_agg2 Try.underlying70 (by kernel_rfl) (by kernel_rfl) (hval 0 70 v0 rfl rfl) h0
  obtain ⟨g0, he0, _, w0⟩ := DataW.trod_int Try.underlying2 hy0
  simp only [List.cons.injEq, and_true] at he0
  subst he0
  obtain ⟨len0, z0, hR0⟩ := open_structs Try.underlying68 Try.underlying186 (by kernel_rfl) (by kernel_rfl) (by decide) (by intro j f hj; match j, hj with | 0, hj => (injection hj with hj; subst hj; exact Try.underlying2) | 1, hj => (injection hj with hj; subst hj; exact Try.underlying2) | 2, hj => (injection hj with hj; subst hj; exact Try.underlying2) | 3, hj => (injection hj with hj; subst hj; exact Try.underlying2) | n + 4, hj => simp at hj) (hu0)
  have a0 := rows_lst Place.cells Place.cells_len (fun i => ⟨z0 i 0, z0 i 1, z0 i 2, z0 i 3⟩) (by intro i j hj; match j, hj with | 0, _ => rfl | 1, _ => rfl | 2, _ => rfl | 3, _ => rfl | n + 4, hj => omega) hR0
  have o0 : Hid (∀ x ∈ (List.range len0).map fun i => (⟨z0 i 0, z0 i 1, z0 i 2, z0 i 3⟩ : Place), x.ok) := by
    intro x hx
    obtain ⟨i, hi, rfl⟩ := List.mem_map.1 hx
    have hi := List.mem_range.1 hi
    exact ⟨hR0.2.2 i 0 hi (by decide), hR0.2.2 i 1 hi (by decide), hR0.2.2 i 2 hi (by decide), hR0.2.2 i 3 hi (by decide)⟩
  have o0 : Hid (i64ok g0 ∧ ∀ x ∈ (List.range len0).map fun i => (⟨z0 i 0, z0 i 1, z0 i 2, z0 i 3⟩ : Place), x.ok) := ⟨wf_i64ok w0, o0⟩
  obtain ⟨a1, rfl, rfl, rfl, w1⟩ := open_int Try.underlying2 (hval 1 2 v1 rfl rfl) h1
  have o1 : Hid (i64ok a1) := wf_i64ok w1
  clear hA0 hval0
  refine (law_RoomTimes _ _ _ _ W a0 o0 o1).mono fun e W' ⟨he, bel⟩ => ?_
  subst he
  exact ⟨_, rfl, _, _, _, [], _, [], hW', trodAll_mk1 (shut_bool Try.underlying4 _), (trodAll_cons_mk (Below.trod RoomTimes_laidOut (by kernel_rfl) (of_decide_eq_true (by kernel_rfl)) k0 bel lt0) (trodAll_cons_mk (Below.trod RoomTimes_laidOut (by kernel_rfl) (of_decide_eq_true (by kernel_rfl)) k1 bel lt1) trodAll_mk0)), rfl, bel.frame _, fun h => by cases h⟩
theorem RoomTimes_over : Rows.fnExactRoomTimesRow.holds Try.pinned (OpenSpec.ofChange Rows.fnExactRoomTimesSpec) :=
  OpenClaim.holds_of_wide 8 Try.f8 rfl rfl rfl rfl rfl rfl rfl ⟨rfl, rfl, rfl, rfl, rfl⟩ rfl rfl rfl rfl rfl (by kernel_rfl) Try.func8 (by kernel_rfl)
    (of_decide_eq_true (by kernel_rfl)) (by unfold Func.isWrapper; first | (rw [if_pos (by decide +kernel)]; kernel_rfl) | (rw [if_neg (by decide +kernel)]; exact ⟨rfl, rfl⟩))
    (fun os started H enc _ => RoomTimes_lifted os started H enc)
/-- The given statement. -/
theorem RoomTimes_proved : Rows.FnExactRoomTimesSaid := RoomTimes_over
end Go.Proofs.Ytkbhbmoogkjafaa
