/-
  FnExactIsFiringTable returns true for every input: the program's IsFiringTable gives what the reference's gives (whether a table is the firing table); nothing that was there turns.
  Conditions: none beyond the statement's own.
-/
import Derived.Test.YtpkkkigiiaegfaaFTab
import Derived.Test.YtpkkkigiiaegfaaMatArg
import Derived.Test.YtpkkkigiiaegfaaGLaw
import Derived.Test.YtpkkkigiiaegfaaOpen
namespace Go.Proofs.Ytpkkkigiiaegfaa
open Go.RowKit Go.ChangeShapes Go.WideShapes Go.ChangeAt Go.Deep
set_option linter.unusedVariables false
set_option linter.unusedSimpArgs false

set_option maxHeartbeats 4000000 in
set_option maxRecDepth 100000 in
theorem law_IsFiringTable (v : Value) (ge : Int) (gp : List Place) (u : Value) (T : List (List Int)) (w : World) (a0 : Lst Place.cells 4 w w.heap.size v gp) (a1 : LstM w w.heap.size u T) (o0 : Hid (i64ok ge ∧ ∀ x ∈ gp, x.ok)) (o1 : Hid (∀ r ∈ T, ∀ n ∈ r, i64ok n)) :
    Calls Try.prog 7 #[.agg #[.int .i64 ge, v], u] w fun e w' => e = .returned (.bool true) ∧ Below w.heap.size w w' := by
  have b0 := (Lst.alloc a0 (.cells #[.int .i64 ge, v] 24))
  have b1 := (LstM.now a1 ((Below.refl _ _).alloc (Nat.le_refl _) (.cells #[.int .i64 ge, v] 24)))
  have ht : Below (w.alloc (.cells #[.int .i64 ge, v] 24)).heap.size (w.alloc (.cells #[.int .i64 ge, v] 24)) (w.alloc (.cells #[.int .i64 ge, v] 24)) := Below.refl _ _
  by_cases hs0 : (1048576 : Int) < gp.length
  · have hz : (if (1048576 : Int) < gp.length then (-1 : Int) else (1048576 : Int) - gp.length) = -1 := if_pos hs0
    go_enter Try.func7, Try.ntmps7
    go_wp2_with fail
    have ka00 : (w.alloc (.cells #[.int .i64 ge, v] 24)).cell? ⟨w.heap.size, 0, none⟩ = some (.int .i64 ge) := by simp
    have ka01 : (w.alloc (.cells #[.int .i64 ge, v] 24)).cell? ⟨w.heap.size, 1, none⟩ = some (v) := by simp
    refine (laws_szEventGraph _ _ _ _ _ ((b0.below ht (Nat.le_refl _)).more ht.size) (by omega) (by omega)).mono ?_
    rintro e w1 ⟨rfl, hB1⟩
    have s1 := hB1.size
    replace ht := ht.trans (hB1.mono ht.size)
    replace ka00 := cell_keep ka00 hB1
    replace ka01 := cell_keep ka01 hB1
    go_wp2_with fail
    go_ret
    exact ⟨rfl, (by repeat (first | exact Below.refl _ _ | refine Below.drew ?_ | refine Below.alloc ?_ (by first | omega | (simp; done) | (simp; omega) | (have q0 := ht.size; simp at q0; omega) | (have q0 := ht.size; simp at q0 ⊢; omega)) _ | refine Below.setCell ?_ (by first | omega | (simp; done) | (simp; omega) | (have q0 := ht.size; simp at q0; omega) | (have q0 := ht.size; simp at q0 ⊢; omega)) _ | refine Below.trans ?_ (Below.mono ht (by first | omega | (simp; done) | (simp; omega) | (have q0 := ht.size; simp at q0; omega) | (have q0 := ht.size; simp at q0 ⊢; omega)))))⟩
  · have hz0 : (if (1048576 : Int) < gp.length then (-1 : Int) else (1048576 : Int) - gp.length) = (1048576 : Int) - gp.length := if_neg hs0
    have hn0 : gp.length ≤ 1048576 := by omega
    by_cases hs1 : (1048576 : Int) - gp.length < ((T.length : Int) + offs T T.length)
    · have hz : (if (1048576 : Int) - gp.length < ((T.length : Int) + offs T T.length) then (-1 : Int) else (1048576 : Int) - gp.length - T.length - offs T T.length) = -1 := if_pos hs1
      go_enter Try.func7, Try.ntmps7
      go_wp2_with fail
      have ka00 : (w.alloc (.cells #[.int .i64 ge, v] 24)).cell? ⟨w.heap.size, 0, none⟩ = some (.int .i64 ge) := by simp
      have ka01 : (w.alloc (.cells #[.int .i64 ge, v] 24)).cell? ⟨w.heap.size, 1, none⟩ = some (v) := by simp
      refine (laws_szEventGraph _ _ _ _ _ ((b0.below ht (Nat.le_refl _)).more ht.size) (by omega) (by omega)).mono ?_
      rintro e w1 ⟨rfl, hB1⟩
      have s1 := hB1.size
      replace ht := ht.trans (hB1.mono ht.size)
      replace ka00 := cell_keep ka00 hB1
      replace ka01 := cell_keep ka01 hB1
      go_wp2_with fail
      refine (laws_szInt64SS _ _ _ _ _ (b1.now ht) (by omega) (by omega)).mono ?_
      rintro e w' ⟨rfl, rfl⟩
      go_wp2_with fail
      go_ret
      exact ⟨rfl, (by repeat (first | exact Below.refl _ _ | refine Below.drew ?_ | refine Below.alloc ?_ (by first | omega | (simp; done) | (simp; omega) | (have q0 := ht.size; simp at q0; omega) | (have q0 := ht.size; simp at q0 ⊢; omega)) _ | refine Below.setCell ?_ (by first | omega | (simp; done) | (simp; omega) | (have q0 := ht.size; simp at q0; omega) | (have q0 := ht.size; simp at q0 ⊢; omega)) _ | refine Below.trans ?_ (Below.mono ht (by first | omega | (simp; done) | (simp; omega) | (have q0 := ht.size; simp at q0; omega) | (have q0 := ht.size; simp at q0 ⊢; omega)))))⟩
    · have hz1 : (if (1048576 : Int) - gp.length < ((T.length : Int) + offs T T.length) then (-1 : Int) else (1048576 : Int) - gp.length - T.length - offs T T.length) = (1048576 : Int) - gp.length - T.length - offs T T.length := if_neg hs1
      have hn1 : T.length + offs T T.length ≤ 1048576 := by omega
      go_enter Try.func7, Try.ntmps7
      go_wp2_with fail
      have ka00 : (w.alloc (.cells #[.int .i64 ge, v] 24)).cell? ⟨w.heap.size, 0, none⟩ = some (.int .i64 ge) := by simp
      have ka01 : (w.alloc (.cells #[.int .i64 ge, v] 24)).cell? ⟨w.heap.size, 1, none⟩ = some (v) := by simp
      refine (laws_szEventGraph _ _ _ _ _ ((b0.below ht (Nat.le_refl _)).more ht.size) (by omega) (by omega)).mono ?_
      rintro e w1 ⟨rfl, hB1⟩
      have s1 := hB1.size
      replace ht := ht.trans (hB1.mono ht.size)
      replace ka00 := cell_keep ka00 hB1
      replace ka01 := cell_keep ka01 hB1
      go_wp2_with fail
      refine (laws_szInt64SS _ _ _ _ _ (b1.now ht) (by omega) (by omega)).mono ?_
      rintro e w' ⟨rfl, rfl⟩
      go_wp2_with fail
      refine (laws_toEventGraph _ _ _ _ ((b0.below ht (Nat.le_refl _)).more ht.size) hn0).mono ?_
      rintro e w2 ⟨y0, rfl, hy0, hB2⟩
      obtain ⟨Ay0, cy0, rfl⟩ := hy0.shape
      have ry0 := Lib.hid hy0.lt
      have s2 := hB2.size
      replace ht := ht.trans (hB2.mono ht.size)
      replace ka00 := cell_keep ka00 hB2
      replace ka01 := cell_keep ka01 hB2
      go_wp2_with fail
      refine (laws_toInt64SS _ _ _ (b1.now ht) hn1).mono ?_
      rintro e w3 ⟨y1, rfl, hy1, hB3⟩
      obtain ⟨Ay1, cy1, rfl⟩ := hy1.shape
      have ry1 := Lib.hid True.intro
      have s3 := hB3.size
      replace ht := ht.trans (hB3.mono ht.size)
      replace hy0 := hy0.now hB3
      replace ka00 := cell_keep ka00 hB3
      replace ka01 := cell_keep ka01 hB3
      go_wp2_with fail
      refine (spec_IsFiringTable _ _ _ _ _ _ hy0.lst hy1.lst ).mono ?_
      rintro e w4 ⟨rfl, hB4⟩
      have s4 := hB4.size
      replace ht := ht.trans (hB4.mono ht.size)
      replace hy0 := hy0.now hB4
      replace hy1 := hy1.now hB4
      replace ka00 := cell_keep ka00 hB4
      replace ka01 := cell_keep ka01 hB4
      go_wp2_with fail
      clear hy0 ry0
      clear hy1 ry1
      refine (laws_toEventGraph _ _ _ _ ((b0.below ht (Nat.le_refl _)).more ht.size) hn0).mono ?_
      rintro e w5 ⟨x0, rfl, hx0, hB5⟩
      obtain ⟨Ax0, cx0, rfl⟩ := hx0.shape
      have rx0 := Lib.hid hx0.lt
      have s5 := hB5.size
      replace ht := ht.trans (hB5.mono ht.size)
      replace ka00 := cell_keep ka00 hB5
      replace ka01 := cell_keep ka01 hB5
      have hA1 : Below w5.heap.size w5 (w5.alloc (.cells #[.int .i64 ge, .slice Ax0 gp.length cx0] 32)) := (Below.refl _ _).alloc (Nat.le_refl _) _
      have sA1 : w5.heap.size < (w5.alloc (.cells #[.int .i64 ge, .slice Ax0 gp.length cx0] 32)).heap.size := by simp
      replace ht := ht.trans (hA1.mono ht.size)
      replace hx0 := hx0.now hA1
      replace ka00 := cell_keep ka00 hA1
      replace ka01 := cell_keep ka01 hA1
      have kx00 : (w5.alloc (.cells #[.int .i64 ge, .slice Ax0 gp.length cx0] 32)).cell? ⟨w5.heap.size, 0, none⟩ = some (.int .i64 ge) := by simp
      have kx01 : (w5.alloc (.cells #[.int .i64 ge, .slice Ax0 gp.length cx0] 32)).cell? ⟨w5.heap.size, 1, none⟩ = some (.slice Ax0 gp.length cx0) := by simp
      clear hA1
      go_wp2_with fail
      refine (laws_toInt64SS _ _ _ (b1.now ht) hn1).mono ?_
      rintro e w6 ⟨x1, rfl, hx1, hB6⟩
      obtain ⟨Ax1, cx1, rfl⟩ := hx1.shape
      have rx1 := Lib.hid True.intro
      have s6 := hB6.size
      replace ht := ht.trans (hB6.mono ht.size)
      replace hx0 := hx0.now hB6
      replace ka00 := cell_keep ka00 hB6
      replace ka01 := cell_keep ka01 hB6
      replace kx00 := cell_keep kx00 hB6
      replace kx01 := cell_keep kx01 hB6
      go_wp2_with fail
      refine (impl_IsFiringTable _ _ _ _ _ _ hx0.lst hx1.lst ).mono ?_
      rintro e w7 ⟨rfl, hB7⟩
      have s7 := hB7.size
      replace ht := ht.trans (hB7.mono ht.size)
      replace hx0 := hx0.now hB7
      replace hx1 := hx1.now hB7
      replace ka00 := cell_keep ka00 hB7
      replace ka01 := cell_keep ka01 hB7
      replace kx00 := cell_keep kx00 hB7
      replace kx01 := cell_keep kx01 hB7
      go_wp2_with fail
      have hbz := ((b0.below ht (Nat.le_refl _)).more ht.size)
      go_region_held3 (fun w' => w'.cell? ⟨w5.heap.size, 0, none⟩ = some (.int .i64 ge) ∧ w'.cell? ⟨w5.heap.size, 1, none⟩ = some (.slice Ax0 gp.length cx0) ∧ w'.cell? ⟨w.heap.size, 0, none⟩ = some (.int .i64 ge) ∧ w'.cell? ⟨w.heap.size, 1, none⟩ = some (v)) (first | exact ⟨kx00, kx01, ka00, ka01⟩ | exact ⟨fkx00, fkx01, fka00, fka01⟩ | exact ⟨ekx00, ekx01, eka00, eka01⟩ | go_keep) (first | (go_at_call 17; refine (laws_toEventGraph _ _ _ _ (show Lst Place.cells 4 w7.drew w7.drew.heap.size _ _ from hbz) hn0).mono ?_; rintro e w8 ⟨z0, rfl, hz0, hB8⟩; have fkx00 := cell_keep (w := w7.drew) kx00 hB8; have fkx01 := cell_keep (w := w7.drew) kx01 hB8; have fka00 := cell_keep (w := w7.drew) ka00 hB8; have fka01 := cell_keep (w := w7.drew) ka01 hB8) | (go_at_call 20; refine (laws_eqEventGraph _ _ _ _ _ _ _ (Lst.now (w := w7.drew) hx0.lst hB8) hz0.lst).mono ?_; rintro e w9 ⟨rfl, hB9⟩; have ekx00 := cell_keep fkx00 hB9; have ekx01 := cell_keep fkx01 hB9; have eka00 := cell_keep fka00 hB9; have eka01 := cell_keep fka01 hB9))
      clear fkx00 fkx01 fka00 fka01 ekx00 ekx01 eka00 eka01
      have s8 := Below.size (w := w7.drew) hB8
      have dq8 : w7.drew.heap.size = w7.heap.size := rfl
      have s9 := hB9.size
      have hD : Below w7.heap.size w7 w9 := ((Below.refl _ w7).drew.trans hB8).trans (hB9.mono s8)
      replace ht := ht.trans (hD.mono ht.size)
      replace hx0 := hx0.now hD
      replace hx1 := hx1.now hD
      replace ka00 := cell_keep ka00 hD
      replace ka01 := cell_keep ka01 hD
      replace kx00 := cell_keep kx00 hD
      replace kx01 := cell_keep kx01 hD
      clear hD
      go_wp2_with fail
      refine (laws_toInt64SS _ _ _ (b1.now ht) hn1).mono ?_
      rintro e w10 ⟨z1, rfl, hz1, hB10⟩
      obtain ⟨Az1, cz1, rfl⟩ := hz1.shape
      have rz1 := Lib.hid True.intro
      have s10 := hB10.size
      replace ht := ht.trans (hB10.mono ht.size)
      replace hx0 := hx0.now hB10
      replace hx1 := hx1.now hB10
      replace ka00 := cell_keep ka00 hB10
      replace ka01 := cell_keep ka01 hB10
      replace kx00 := cell_keep kx00 hB10
      replace kx01 := cell_keep kx01 hB10
      go_wp2_with fail
      refine (laws_eqInt64SS _ _ _ _ _ hx1.lst hz1.lst).mono ?_
      rintro e w11 ⟨rfl, hB11⟩
      have s11 := hB11.size
      replace ht := ht.trans (hB11.mono ht.size)
      replace hx0 := hx0.now hB11
      replace hx1 := hx1.now hB11
      replace hz1 := hz1.now hB11
      replace ka00 := cell_keep ka00 hB11
      replace ka01 := cell_keep ka01 hB11
      replace kx00 := cell_keep kx00 hB11
      replace kx01 := cell_keep kx01 hB11
      clear hz1 rz1
      go_wp2_with fail
      go_ret
      exact ⟨rfl, (by repeat (first | exact Below.refl _ _ | refine Below.drew ?_ | refine Below.alloc ?_ (by first | omega | (simp; done) | (simp; omega) | (have q0 := ht.size; simp at q0; omega) | (have q0 := ht.size; simp at q0 ⊢; omega)) _ | refine Below.setCell ?_ (by first | omega | (simp; done) | (simp; omega) | (have q0 := ht.size; simp at q0; omega) | (have q0 := ht.size; simp at q0 ⊢; omega)) _ | refine Below.trans ?_ (Below.mono ht (by first | omega | (simp; done) | (simp; omega) | (have q0 := ht.size; simp at q0; omega) | (have q0 := ht.size; simp at q0 ⊢; omega)))))⟩

theorem IsFiringTable_own : ownKnob Try.prog.godebug = none := by kernel_rfl
theorem IsFiringTable_laidOut : laidOutB Try.prog = true := by kernel_rfl
set_option maxRecDepth 100000 in
theorem IsFiringTable_lifted (os : Os) (started : os.Started) (H : Type) (enc : TypeId × Value → H) :
    ReturnsInHanded {} Try.checked os 7 .any (Rows.fnExactIsFiringTableSpec.pre6 enc Try.prog Try.f7 Rows.fnExactIsFiringTableRow.domain false) (Rows.fnExactIsFiringTableSpec.post enc Try.prog Try.f7 false true false false) := by
  refine returnsInHanded_of_change (C := Try.checked) IsFiringTable_own started (by kernel_rfl) Try.func7
    (ChangeSpec.witness6 (enc := enc) (C := Try.checked) false ⟨#[], #[.agg #[.int .i64 0, .slice none 0 0], .slice none 0 0], []⟩ 8 (by kernel_rfl) (by kernel_rfl) (by kernel_rfl) (by kernel_rfl)) ?_
  intro W base args ds gs before hval0 hW hcnd _
  have hval : ∀ (j : Nat) t v, Try.f7.params[j]? = some t → args[j]? = some v → Value.okWide Try.prog W .any base t v := hval0
  have hW' := hW
  obtain ⟨p, q, hA0, hV, rfl, hfz, hnd⟩ := hW
  have hA : DataW.TrodAll enc Try.prog W 0 (fun _ => true) true Try.f7.params.toList args.toList ds p := hA0
  rw [Try.params7] at hA hval
  obtain ⟨v0, vs0, d0, ds0, p0, q0, hargs, rfl, rfl, h0, r0⟩ := trodAll_cons hA
  obtain ⟨v1, vs1, d1, ds1, p1, q1, rfl, rfl, rfl, h1, r1⟩ := trodAll_cons r0
  obtain ⟨rfl, rfl, rfl⟩ := trodAll_nil r1
  obtain rfl : args = #[v0, v1] := by cases args; simp_all
  obtain ⟨rfl, rfl⟩ := trodVars_none hV
  have k0 := h0
  have lt0 : ∀ x ∈ p0, x.block < W.heap.size := by obtain ⟨m, hm⟩ := k0; exact DataW.trod_lt m _ _ _ hm
  have k1 := h1
  have lt1 : ∀ x ∈ p1, x.block < W.heap.size := by obtain ⟨m, hm⟩ := k1; exact DataW.trod_lt m _ _ _ hm
  obtain ⟨e0, s0, y0, u0, fl0, rfl, _, _, hy0, hu0⟩ := Joins.open_agg2 Try.underlying24 (by kernel_rfl) (by kernel_rfl) (hval 0 24 v0 rfl rfl) h0
  obtain ⟨g0, he0, _, w0⟩ := DataW.trod_int Try.underlying2 hy0
  simp only [List.cons.injEq, and_true] at he0
  subst he0
  obtain ⟨len0, z0, hR0⟩ := open_structs Try.underlying22 Try.underlying168 (by kernel_rfl) (by kernel_rfl) (by decide) (by intro j f hj; match j, hj with | 0, hj => (injection hj with hj; subst hj; exact Try.underlying2) | 1, hj => (injection hj with hj; subst hj; exact Try.underlying2) | 2, hj => (injection hj with hj; subst hj; exact Try.underlying2) | 3, hj => (injection hj with hj; subst hj; exact Try.underlying2) | n + 4, hj => simp at hj) (hu0)
  have a0 := rows_lst Place.cells Place.cells_len (fun i => ⟨z0 i 0, z0 i 1, z0 i 2, z0 i 3⟩) (by intro i j hj; match j, hj with | 0, _ => rfl | 1, _ => rfl | 2, _ => rfl | 3, _ => rfl | n + 4, hj => omega) hR0
  have o0 : Hid (∀ x ∈ (List.range len0).map fun i => (⟨z0 i 0, z0 i 1, z0 i 2, z0 i 3⟩ : Place), x.ok) := by
    intro x hx
    obtain ⟨i, hi, rfl⟩ := List.mem_map.1 hx
    have hi := List.mem_range.1 hi
    exact ⟨hR0.2.2 i 0 hi (by decide), hR0.2.2 i 1 hi (by decide), hR0.2.2 i 2 hi (by decide), hR0.2.2 i 3 hi (by decide)⟩
  have o0 : Hid (i64ok g0 ∧ ∀ x ∈ (List.range len0).map fun i => (⟨z0 i 0, z0 i 1, z0 i 2, z0 i 3⟩ : Place), x.ok) := ⟨wf_i64ok w0, o0⟩
  obtain ⟨A1, n1, c1, rfl⟩ := okWide_slice Try.underlying47 (hval 1 47 v1 rfl rfl)
  obtain ⟨fuel1, hf1⟩ := h1
  obtain ⟨l1, a1, o1⟩ := open_i64ss Try.underlying47 Try.underlying37 Try.underlying2 (by kernel_rfl) (by kernel_rfl) (show DataW.trod enc Try.prog W 0 (fun _ => true) true fuel1 47 [_] = _ by simpa [Value.cells] using hf1)
  clear hA0 hval0
  refine (law_IsFiringTable _ _ _ _ _ W a0 a1 o0 o1).mono fun e W' ⟨he, bel⟩ => ?_
  subst he
  exact ⟨_, rfl, _, _, _, [], _, [], hW', trodAll_mk1 (shut_bool Try.underlying4 _), (trodAll_cons_mk (Below.trod IsFiringTable_laidOut (by kernel_rfl) (of_decide_eq_true (by kernel_rfl)) k0 bel lt0) (trodAll_cons_mk (Below.trod IsFiringTable_laidOut (by kernel_rfl) (of_decide_eq_true (by kernel_rfl)) k1 bel lt1) trodAll_mk0)), rfl, bel.frame _, fun h => by cases h⟩
theorem IsFiringTable_over : Rows.fnExactIsFiringTableRow.holds Try.pinned (OpenSpec.ofChange Rows.fnExactIsFiringTableSpec) :=
  OpenClaim.holds_of_wide 7 Try.f7 rfl rfl rfl rfl rfl rfl rfl ⟨rfl, rfl, rfl, rfl, rfl⟩ rfl rfl rfl rfl rfl (by kernel_rfl) Try.func7 (by kernel_rfl)
    (of_decide_eq_true (by kernel_rfl)) (by unfold Func.isWrapper; first | (rw [if_pos (by decide +kernel)]; kernel_rfl) | (rw [if_neg (by decide +kernel)]; exact ⟨rfl, rfl⟩))
    (fun os started H enc _ => IsFiringTable_lifted os started H enc)
/-- The given statement. -/
theorem IsFiringTable_proved : Rows.FnExactIsFiringTableSaid := IsFiringTable_over
end Go.Proofs.Ytpkkkigiiaegfaa
