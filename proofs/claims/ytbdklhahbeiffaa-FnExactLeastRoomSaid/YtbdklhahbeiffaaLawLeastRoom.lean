/-
  FnExactLeastRoom returns true for every input: the program's LeastRoom gives what the reference's gives (the least room of one place); nothing that was there turns.
  Conditions: none beyond the statement's own.
-/
import Derived.Test.YtbdklhahbeiffaaLstR
import Derived.Test.YtbdklhahbeiffaaGLaw
import Derived.Test.YtbdklhahbeiffaaOpen
namespace Go.Proofs.Ytbdklhahbeiffaa
open Go.RowKit Go.ChangeShapes Go.WideShapes Go.ChangeAt Go.Deep
set_option linter.unusedVariables false
set_option linter.unusedSimpArgs false

set_option maxHeartbeats 4000000 in
set_option maxRecDepth 100000 in
theorem law_LeastRoom (v : Value) (ge : Int) (gp : List Place) (i : Int) (a b : Int) (w : World) (a0 : Lst Place.cells 4 w w.heap.size v gp) (o0 : Hid (i64ok ge ∧ ∀ x ∈ gp, x.ok)) (o1 : Hid (i64ok i)) (o2 : Hid (i64ok a ∧ i64ok b)) :
    Calls Try.prog 3 #[.agg #[.int .i64 ge, v], .int .i64 i, .agg #[.int .i64 a, .int .i64 b]] w fun e w' => e = .returned (.bool true) ∧ Below w.heap.size w w' := by
  have b0 := (Lst.alloc (Lst.alloc a0 (.cells #[.int .i64 ge, v] 24)) (.cells #[.int .i64 a, .int .i64 b] 26))
  have ht : Below ((w.alloc (.cells #[.int .i64 ge, v] 24)).alloc (.cells #[.int .i64 a, .int .i64 b] 26)).heap.size ((w.alloc (.cells #[.int .i64 ge, v] 24)).alloc (.cells #[.int .i64 a, .int .i64 b] 26)) ((w.alloc (.cells #[.int .i64 ge, v] 24)).alloc (.cells #[.int .i64 a, .int .i64 b] 26)) := Below.refl _ _
  by_cases hs0 : (1048576 : Int) < gp.length
  · have hz : (if (1048576 : Int) < gp.length then (-1 : Int) else (1048576 : Int) - gp.length) = -1 := if_pos hs0
    go_enter Try.func3, Try.ntmps3
    go_wp2_with fail
    have ka00 : ((w.alloc (.cells #[.int .i64 ge, v] 24)).alloc (.cells #[.int .i64 a, .int .i64 b] 26)).cell? ⟨w.heap.size, 0, none⟩ = some (.int .i64 ge) := by simp
    have ka01 : ((w.alloc (.cells #[.int .i64 ge, v] 24)).alloc (.cells #[.int .i64 a, .int .i64 b] 26)).cell? ⟨w.heap.size, 1, none⟩ = some (v) := by simp
    have ka20 : ((w.alloc (.cells #[.int .i64 ge, v] 24)).alloc (.cells #[.int .i64 a, .int .i64 b] 26)).cell? ⟨w.heap.size + 1, 0, none⟩ = some (.int .i64 a) := by simp
    have ka21 : ((w.alloc (.cells #[.int .i64 ge, v] 24)).alloc (.cells #[.int .i64 a, .int .i64 b] 26)).cell? ⟨w.heap.size + 1, 1, none⟩ = some (.int .i64 b) := by simp
    refine (laws_szEventGraph _ _ _ _ _ ((b0.below ht (Nat.le_refl _)).more ht.size) (by omega) (by omega)).mono ?_
    rintro e w1 ⟨rfl, hB1⟩
    have s1 := hB1.size
    replace ht := ht.trans (hB1.mono ht.size)
    replace ka00 := cell_keep ka00 hB1
    replace ka01 := cell_keep ka01 hB1
    replace ka20 := cell_keep ka20 hB1
    replace ka21 := cell_keep ka21 hB1
    go_wp2_with fail
    go_ret
    exact ⟨rfl, (by repeat (first | exact Below.refl _ _ | refine Below.drew ?_ | refine Below.alloc ?_ (by first | omega | (simp; done) | (simp; omega) | (have q0 := ht.size; simp at q0; omega) | (have q0 := ht.size; simp at q0 ⊢; omega)) _ | refine Below.setCell ?_ (by first | omega | (simp; done) | (simp; omega) | (have q0 := ht.size; simp at q0; omega) | (have q0 := ht.size; simp at q0 ⊢; omega)) _ | refine Below.trans ?_ (Below.mono ht (by first | omega | (simp; done) | (simp; omega) | (have q0 := ht.size; simp at q0; omega) | (have q0 := ht.size; simp at q0 ⊢; omega)))))⟩
  · have hz0 : (if (1048576 : Int) < gp.length then (-1 : Int) else (1048576 : Int) - gp.length) = (1048576 : Int) - gp.length := if_neg hs0
    have hn0 : gp.length ≤ 1048576 := by omega
    go_enter Try.func3, Try.ntmps3
    go_wp2_with fail
    have ka00 : ((w.alloc (.cells #[.int .i64 ge, v] 24)).alloc (.cells #[.int .i64 a, .int .i64 b] 26)).cell? ⟨w.heap.size, 0, none⟩ = some (.int .i64 ge) := by simp
    have ka01 : ((w.alloc (.cells #[.int .i64 ge, v] 24)).alloc (.cells #[.int .i64 a, .int .i64 b] 26)).cell? ⟨w.heap.size, 1, none⟩ = some (v) := by simp
    have ka20 : ((w.alloc (.cells #[.int .i64 ge, v] 24)).alloc (.cells #[.int .i64 a, .int .i64 b] 26)).cell? ⟨w.heap.size + 1, 0, none⟩ = some (.int .i64 a) := by simp
    have ka21 : ((w.alloc (.cells #[.int .i64 ge, v] 24)).alloc (.cells #[.int .i64 a, .int .i64 b] 26)).cell? ⟨w.heap.size + 1, 1, none⟩ = some (.int .i64 b) := by simp
    refine (laws_szEventGraph _ _ _ _ _ ((b0.below ht (Nat.le_refl _)).more ht.size) (by omega) (by omega)).mono ?_
    rintro e w1 ⟨rfl, hB1⟩
    have s1 := hB1.size
    replace ht := ht.trans (hB1.mono ht.size)
    replace ka00 := cell_keep ka00 hB1
    replace ka01 := cell_keep ka01 hB1
    replace ka20 := cell_keep ka20 hB1
    replace ka21 := cell_keep ka21 hB1
    go_wp2_with fail
    have hbz0 := ((b0.below ht (Nat.le_refl _)).more ht.size)
    go_region_held3 (fun w' => w'.cell? ⟨w.heap.size, 0, none⟩ = some (.int .i64 ge) ∧ w'.cell? ⟨w.heap.size, 1, none⟩ = some (v) ∧ w'.cell? ⟨w.heap.size + 1, 0, none⟩ = some (.int .i64 a) ∧ w'.cell? ⟨w.heap.size + 1, 1, none⟩ = some (.int .i64 b)) (first | exact ⟨ka00, ka01, ka20, ka21⟩ | exact ⟨ka00_1, ka01_1, ka20_1, ka21_1⟩ | exact ⟨ka00_2, ka01_2, ka20_2, ka21_2⟩ | exact ⟨ka00_3, ka01_3, ka20_3, ka21_3⟩ | go_keep) (first | (go_at_call 10; refine (laws_toEventGraph v ge gp _ (show Lst Place.cells 4 w1.drew w1.drew.heap.size _ _ from hbz0) hn0).mono ?_; rintro e w2 ⟨y0, rfl, hy0, hB2⟩; obtain ⟨Ay0, cy0, rfl⟩ := hy0.shape; have ry0 := Lib.hid hy0.lt; have ka00_1 := cell_keep (w := w1.drew) ka00 hB2; have ka01_1 := cell_keep (w := w1.drew) ka01 hB2; have ka20_1 := cell_keep (w := w1.drew) ka20 hB2; have ka21_1 := cell_keep (w := w1.drew) ka21 hB2; replace hbz0 := Lst.now (w := w1.drew) hbz0 hB2) | (go_at_call 11; refine (laws_toRatio a b _).mono ?_; rintro e w3 ⟨rfl, hB3⟩; have ka00_2 := cell_keep ka00_1 hB3; have ka01_2 := cell_keep ka01_1 hB3; have ka20_2 := cell_keep ka20_1 hB3; have ka21_2 := cell_keep ka21_1 hB3; replace hbz0 := Lst.now (w := w2) hbz0 hB3; replace hy0 := hy0.now hB3) | (go_at_call 9; refine (spec_LeastRoom _ _ _ _ _ _ _ hy0.lst ).mono ?_; rintro e w4 ⟨rfl, hB4⟩; have ka00_3 := cell_keep ka00_2 hB4; have ka01_3 := cell_keep ka01_2 hB4; have ka20_3 := cell_keep ka20_2 hB4; have ka21_3 := cell_keep ka21_2 hB4))
    clear ka00_1 ka01_1 ka20_1 ka21_1 ka00_2 ka01_2 ka20_2 ka21_2 ka00_3 ka01_3 ka20_3 ka21_3
    clear hbz0
    have s2 := Below.size (w := w1.drew) hB2
    have s3 := Below.size (w := w2) hB3
    have s4 := Below.size (w := w3) hB4
    have dq2 : w1.drew.heap.size = w1.heap.size := rfl
    have hD : Below w1.heap.size w1 w4 := ((((Below.refl _ w1).drew.trans (Below.mono (w := w1.drew) hB2 (show w1.heap.size ≤ _ from by first | exact Nat.le_refl _ | (simp at *; omega) | omega))).trans (Below.mono (w := w2) hB3 (show w1.heap.size ≤ _ from by first | exact Nat.le_refl _ | (simp at *; omega) | omega))).trans (Below.mono (w := w3) hB4 (show w1.heap.size ≤ _ from by first | exact Nat.le_refl _ | (simp at *; omega) | omega)))
    replace ht := ht.trans (hD.mono ht.size)
    replace ka00 := cell_keep ka00 hD
    replace ka01 := cell_keep ka01 hD
    replace ka20 := cell_keep ka20 hD
    replace ka21 := cell_keep ka21 hD
    clear hD
    clear hy0 ry0
    go_wp2_with fail
    refine (laws_toEventGraph _ _ _ _ ((b0.below ht (Nat.le_refl _)).more ht.size) hn0).mono ?_
    rintro e w5 ⟨x0, rfl, hx0, hB5⟩
    obtain ⟨Ax0, cx0, rfl⟩ := hx0.shape
    have rx0 := Lib.hid hx0.lt
    have s5 := hB5.size
    replace ht := ht.trans (hB5.mono ht.size)
    replace ka00 := cell_keep ka00 hB5
    replace ka01 := cell_keep ka01 hB5
    replace ka20 := cell_keep ka20 hB5
    replace ka21 := cell_keep ka21 hB5
    have hA1 : Below w5.heap.size w5 (w5.alloc (.cells #[.int .i64 ge, .slice Ax0 gp.length cx0] 32)) := (Below.refl _ _).alloc (Nat.le_refl _) _
    have sA1 : w5.heap.size < (w5.alloc (.cells #[.int .i64 ge, .slice Ax0 gp.length cx0] 32)).heap.size := by simp
    replace ht := ht.trans (hA1.mono ht.size)
    replace hx0 := hx0.now hA1
    replace ka00 := cell_keep ka00 hA1
    replace ka01 := cell_keep ka01 hA1
    replace ka20 := cell_keep ka20 hA1
    replace ka21 := cell_keep ka21 hA1
    have kx00 : (w5.alloc (.cells #[.int .i64 ge, .slice Ax0 gp.length cx0] 32)).cell? ⟨w5.heap.size, 0, none⟩ = some (.int .i64 ge) := by simp
    have kx01 : (w5.alloc (.cells #[.int .i64 ge, .slice Ax0 gp.length cx0] 32)).cell? ⟨w5.heap.size, 1, none⟩ = some (.slice Ax0 gp.length cx0) := by simp
    clear hA1
    go_wp2_with fail
    have hqx0 := hx0
    go_region_held3 (fun w' => w'.cell? ⟨w5.heap.size, 0, none⟩ = some (.int .i64 ge) ∧ w'.cell? ⟨w5.heap.size, 1, none⟩ = some (.slice Ax0 gp.length cx0) ∧ w'.cell? ⟨w.heap.size + 1, 0, none⟩ = some (.int .i64 a) ∧ w'.cell? ⟨w.heap.size + 1, 1, none⟩ = some (.int .i64 b)) (first | exact ⟨kx00, kx01, ka20, ka21⟩ | exact ⟨kx00_1, kx01_1, ka20_1, ka21_1⟩ | exact ⟨kx00_2, kx01_2, ka20_2, ka21_2⟩ | go_keep) (first | (go_at_call 11; refine (laws_toRatio a b _).mono ?_; rintro e w6 ⟨rfl, hB6⟩; have kx00_1 := cell_keep (w := (w5.alloc (.cells #[.int .i64 ge, .slice Ax0 gp.length cx0] 32)).drew) kx00 hB6; have kx01_1 := cell_keep (w := (w5.alloc (.cells #[.int .i64 ge, .slice Ax0 gp.length cx0] 32)).drew) kx01 hB6; have ka20_1 := cell_keep (w := (w5.alloc (.cells #[.int .i64 ge, .slice Ax0 gp.length cx0] 32)).drew) ka20 hB6; have ka21_1 := cell_keep (w := (w5.alloc (.cells #[.int .i64 ge, .slice Ax0 gp.length cx0] 32)).drew) ka21 hB6; replace hqx0 := Own.now (w := (w5.alloc (.cells #[.int .i64 ge, .slice Ax0 gp.length cx0] 32)).drew) hqx0 hB6) | (go_at_call 12; refine (impl_LeastRoom _ _ _ _ _ _ _ hqx0.lst ).mono ?_; rintro e w7 ⟨rfl, hB7⟩; have kx00_2 := cell_keep kx00_1 hB7; have kx01_2 := cell_keep kx01_1 hB7; have ka20_2 := cell_keep ka20_1 hB7; have ka21_2 := cell_keep ka21_1 hB7))
    clear kx00_1 kx01_1 ka20_1 ka21_1 kx00_2 kx01_2 ka20_2 ka21_2
    have s6 := Below.size (w := (w5.alloc (.cells #[.int .i64 ge, .slice Ax0 gp.length cx0] 32)).drew) hB6
    have s7 := Below.size (w := w6) hB7
    have dq6 : (w5.alloc (.cells #[.int .i64 ge, .slice Ax0 gp.length cx0] 32)).drew.heap.size = (w5.alloc (.cells #[.int .i64 ge, .slice Ax0 gp.length cx0] 32)).heap.size := rfl
    have hD : Below (w5.alloc (.cells #[.int .i64 ge, .slice Ax0 gp.length cx0] 32)).heap.size (w5.alloc (.cells #[.int .i64 ge, .slice Ax0 gp.length cx0] 32)) w7 := (((Below.refl _ (w5.alloc (.cells #[.int .i64 ge, .slice Ax0 gp.length cx0] 32))).drew.trans (Below.mono (w := (w5.alloc (.cells #[.int .i64 ge, .slice Ax0 gp.length cx0] 32)).drew) hB6 (show (w5.alloc (.cells #[.int .i64 ge, .slice Ax0 gp.length cx0] 32)).heap.size ≤ _ from by first | exact Nat.le_refl _ | (simp at *; omega) | omega))).trans (Below.mono (w := w6) hB7 (show (w5.alloc (.cells #[.int .i64 ge, .slice Ax0 gp.length cx0] 32)).heap.size ≤ _ from by first | exact Nat.le_refl _ | (simp at *; omega) | omega)))
    replace ht := ht.trans (hD.mono ht.size)
    replace hx0 := hx0.now hD
    replace ka00 := cell_keep ka00 hD
    replace ka01 := cell_keep ka01 hD
    replace ka20 := cell_keep ka20 hD
    replace ka21 := cell_keep ka21 hD
    replace kx00 := cell_keep kx00 hD
    replace kx01 := cell_keep kx01 hD
    clear hD
    clear hqx0
    go_wp2_with fail
    have hbz := ((b0.below ht (Nat.le_refl _)).more ht.size)
    go_region_held3 (fun w' => w'.cell? ⟨w5.heap.size, 0, none⟩ = some (.int .i64 ge) ∧ w'.cell? ⟨w5.heap.size, 1, none⟩ = some (.slice Ax0 gp.length cx0) ∧ w'.cell? ⟨w.heap.size, 0, none⟩ = some (.int .i64 ge) ∧ w'.cell? ⟨w.heap.size, 1, none⟩ = some (v)) (first | exact ⟨kx00, kx01, ka00, ka01⟩ | exact ⟨fkx00, fkx01, fka00, fka01⟩ | exact ⟨ekx00, ekx01, eka00, eka01⟩ | go_keep) (first | (go_at_call 10; refine (laws_toEventGraph _ _ _ _ (show Lst Place.cells 4 w7.drew w7.drew.heap.size _ _ from hbz) hn0).mono ?_; rintro e w8 ⟨z0, rfl, hz0, hB8⟩; have fkx00 := cell_keep (w := w7.drew) kx00 hB8; have fkx01 := cell_keep (w := w7.drew) kx01 hB8; have fka00 := cell_keep (w := w7.drew) ka00 hB8; have fka01 := cell_keep (w := w7.drew) ka01 hB8) | (go_at_call 13; refine (laws_eqEventGraph _ _ _ _ _ _ _ (Lst.now (w := w7.drew) hx0.lst hB8) hz0.lst).mono ?_; rintro e w9 ⟨rfl, hB9⟩; have ekx00 := cell_keep fkx00 hB9; have ekx01 := cell_keep fkx01 hB9; have eka00 := cell_keep fka00 hB9; have eka01 := cell_keep fka01 hB9))
    clear fkx00 fkx01 fka00 fka01 ekx00 ekx01 eka00 eka01
    have s8 := Below.size (w := w7.drew) hB8
    have dq8 : w7.drew.heap.size = w7.heap.size := rfl
    have s9 := hB9.size
    have hD : Below w7.heap.size w7 w9 := ((Below.refl _ w7).drew.trans hB8).trans (hB9.mono s8)
    replace ht := ht.trans (hD.mono ht.size)
    replace hx0 := hx0.now hD
    replace ka00 := cell_keep ka00 hD
    replace ka01 := cell_keep ka01 hD
    replace ka20 := cell_keep ka20 hD
    replace ka21 := cell_keep ka21 hD
    replace kx00 := cell_keep kx00 hD
    replace kx01 := cell_keep kx01 hD
    clear hD
    go_wp2_with fail
    go_ret
    exact ⟨rfl, (by repeat (first | exact Below.refl _ _ | refine Below.drew ?_ | refine Below.alloc ?_ (by first | omega | (simp; done) | (simp; omega) | (have q0 := ht.size; simp at q0; omega) | (have q0 := ht.size; simp at q0 ⊢; omega)) _ | refine Below.setCell ?_ (by first | omega | (simp; done) | (simp; omega) | (have q0 := ht.size; simp at q0; omega) | (have q0 := ht.size; simp at q0 ⊢; omega)) _ | refine Below.trans ?_ (Below.mono ht (by first | omega | (simp; done) | (simp; omega) | (have q0 := ht.size; simp at q0; omega) | (have q0 := ht.size; simp at q0 ⊢; omega)))))⟩

theorem LeastRoom_own : ownKnob Try.prog.godebug = none := by kernel_rfl
theorem LeastRoom_laidOut : laidOutB Try.prog = true := by kernel_rfl
set_option maxRecDepth 100000 in
theorem LeastRoom_lifted (os : Os) (started : os.Started) (H : Type) (enc : TypeId × Value → H) :
    ReturnsInHanded {} Try.checked os 3 .any (Rows.fnExactLeastRoomSpec.pre6 enc Try.prog Try.f3 Rows.fnExactLeastRoomRow.domain false) (Rows.fnExactLeastRoomSpec.post enc Try.prog Try.f3 false true false false) := by
  refine returnsInHanded_of_change (C := Try.checked) LeastRoom_own started (by kernel_rfl) Try.func3
    (ChangeSpec.witness6 (enc := enc) (C := Try.checked) false ⟨#[], #[.agg #[.int .i64 0, .slice none 0 0], .int .i64 0, .agg #[.int .i64 0, .int .i64 0]], []⟩ 8 (by kernel_rfl) (by kernel_rfl) (by kernel_rfl) (by kernel_rfl)) ?_
  intro W base args ds gs before hval0 hW hcnd _
  have hval : ∀ (j : Nat) t v, Try.f3.params[j]? = some t → args[j]? = some v → Value.okWide Try.prog W .any base t v := hval0
  have hW' := hW
  obtain ⟨p, q, hA0, hV, rfl, hfz, hnd⟩ := hW
  have hA : DataW.TrodAll enc Try.prog W 0 (fun _ => true) true Try.f3.params.toList args.toList ds p := hA0
  rw [Try.params3] at hA hval
  obtain ⟨v0, vs0, d0, ds0, p0, q0, hargs, rfl, rfl, h0, r0⟩ := trodAll_cons hA
  obtain ⟨v1, vs1, d1, ds1, p1, q1, rfl, rfl, rfl, h1, r1⟩ := trodAll_cons r0
  obtain ⟨v2, vs2, d2, ds2, p2, q2, rfl, rfl, rfl, h2, r2⟩ := trodAll_cons r1
  obtain ⟨rfl, rfl, rfl⟩ := trodAll_nil r2
  obtain rfl : args = #[v0, v1, v2] := by cases args; simp_all
  obtain ⟨rfl, rfl⟩ := trodVars_none hV
  have k0 := h0
  have lt0 : ∀ x ∈ p0, x.block < W.heap.size := by obtain ⟨m, hm⟩ := k0; exact DataW.trod_lt m _ _ _ hm
  have k1 := h1
  have lt1 : ∀ x ∈ p1, x.block < W.heap.size := by obtain ⟨m, hm⟩ := k1; exact DataW.trod_lt m _ _ _ hm
  have k2 := h2
  have lt2 : ∀ x ∈ p2, x.block < W.heap.size := by obtain ⟨m, hm⟩ := k2; exact DataW.trod_lt m _ _ _ hm
  obtain ⟨e0, s0, y0, u0, fl0, rfl, _, _, hy0, hu0⟩ := Joins.open_agg2 Try.underlying24 (by kernel_rfl) (by kernel_rfl) (hval 0 24 v0 rfl rfl) h0
  obtain ⟨g0, he0, _, w0⟩ := DataW.trod_int Try.underlying2 hy0
  simp only [List.cons.injEq, and_true] at he0
  subst he0
  obtain ⟨len0, z0, hR0⟩ := open_structs Try.underlying22 Try.underlying121 (by kernel_rfl) (by kernel_rfl) (by decide) (by intro j f hj; match j, hj with | 0, hj => (injection hj with hj; subst hj; exact Try.underlying2) | 1, hj => (injection hj with hj; subst hj; exact Try.underlying2) | 2, hj => (injection hj with hj; subst hj; exact Try.underlying2) | 3, hj => (injection hj with hj; subst hj; exact Try.underlying2) | n + 4, hj => simp at hj) (hu0)
  have a0 := rows_lst Place.cells Place.cells_len (fun i => ⟨z0 i 0, z0 i 1, z0 i 2, z0 i 3⟩) (by intro i j hj; match j, hj with | 0, _ => rfl | 1, _ => rfl | 2, _ => rfl | 3, _ => rfl | n + 4, hj => omega) hR0
  have o0 : Hid (∀ x ∈ (List.range len0).map fun i => (⟨z0 i 0, z0 i 1, z0 i 2, z0 i 3⟩ : Place), x.ok) := by
    intro x hx
    obtain ⟨i, hi, rfl⟩ := List.mem_map.1 hx
    have hi := List.mem_range.1 hi
    exact ⟨hR0.2.2 i 0 hi (by decide), hR0.2.2 i 1 hi (by decide), hR0.2.2 i 2 hi (by decide), hR0.2.2 i 3 hi (by decide)⟩
  have o0 : Hid (i64ok g0 ∧ ∀ x ∈ (List.range len0).map fun i => (⟨z0 i 0, z0 i 1, z0 i 2, z0 i 3⟩ : Place), x.ok) := ⟨wf_i64ok w0, o0⟩
  obtain ⟨a1, rfl, rfl, rfl, w1⟩ := open_int Try.underlying2 (hval 1 2 v1 rfl rfl) h1
  have o1 : Hid (i64ok a1) := wf_i64ok w1
  obtain ⟨e2, s2, y2, u2, fl2, rfl, _, _, hy2, hu2⟩ := Joins.open_agg2 Try.underlying26 (by kernel_rfl) (by kernel_rfl) (hval 2 26 v2 rfl rfl) h2
  obtain ⟨g2, ge2, _, gw2⟩ := DataW.trod_int Try.underlying2 hy2
  simp only [List.cons.injEq, and_true] at ge2
  subst ge2
  obtain ⟨i2, ie2, _, iw2⟩ := DataW.trod_int Try.underlying2 hu2
  simp only [List.cons.injEq, and_true] at ie2
  subst ie2
  have o2 : Hid (i64ok g2 ∧ i64ok i2) := ⟨wf_i64ok gw2, wf_i64ok iw2⟩
  clear hA0 hval0
  refine (law_LeastRoom _ _ _ _ _ _ W a0 o0 o1 o2).mono fun e W' ⟨he, bel⟩ => ?_
  subst he
  exact ⟨_, rfl, _, _, _, [], _, [], hW', trodAll_mk1 (shut_bool Try.underlying4 _), (trodAll_cons_mk (Below.trod LeastRoom_laidOut (by kernel_rfl) (of_decide_eq_true (by kernel_rfl)) k0 bel lt0) (trodAll_cons_mk (Below.trod LeastRoom_laidOut (by kernel_rfl) (of_decide_eq_true (by kernel_rfl)) k1 bel lt1) (trodAll_cons_mk (Below.trod LeastRoom_laidOut (by kernel_rfl) (of_decide_eq_true (by kernel_rfl)) k2 bel lt2) trodAll_mk0))), rfl, bel.frame _, fun h => by cases h⟩
theorem LeastRoom_over : Rows.fnExactLeastRoomRow.holds Try.pinned (OpenSpec.ofChange Rows.fnExactLeastRoomSpec) :=
  OpenClaim.holds_of_wide 3 Try.f3 rfl rfl rfl rfl rfl rfl rfl ⟨rfl, rfl, rfl, rfl, rfl⟩ rfl rfl rfl rfl rfl (by kernel_rfl) Try.func3 (by kernel_rfl)
    (of_decide_eq_true (by kernel_rfl)) (by unfold Func.isWrapper; first | (rw [if_pos (by decide +kernel)]; kernel_rfl) | (rw [if_neg (by decide +kernel)]; exact ⟨rfl, rfl⟩))
    (fun os started H enc _ => LeastRoom_lifted os started H enc)
/-- The given statement. -/
theorem LeastRoom_proved : Rows.FnExactLeastRoomSaid := LeastRoom_over
end Go.Proofs.Ytbdklhahbeiffaa
