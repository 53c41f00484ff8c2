/-
  FnExactIsTimePotential returns true for every input: the program's IsTimePotential gives what the reference's gives (a time potential for a ratio); nothing that was there turns.
  Conditions: none beyond the statement's own.
-/
import Derived.Test.YtobbidlbihnodaaPotA
import Derived.Test.YtobbidlbihnodaaGLaw
import Derived.Test.YtobbidlbihnodaaOpen
namespace Go.Proofs.Ytobbidlbihnodaa
open Go.RowKit Go.ChangeShapes Go.WideShapes Go.ChangeAt Go.Deep
set_option linter.unusedVariables false
set_option linter.unusedSimpArgs false

set_option maxHeartbeats 4000000 in
set_option maxRecDepth 100000 in
theorem law_IsTimePotential (v : Value) (ge : Int) (gp : List Place) (a b : Int) (u : Value) (x : List Int) (w : World) (a0 : Lst Place.cells 4 w w.heap.size v gp) (a2 : Lst intCell 1 w w.heap.size u x) (o0 : Hid (i64ok ge ∧ ∀ x ∈ gp, x.ok)) (o1 : Hid (i64ok a ∧ i64ok b)) (o2 : Hid (∀ n ∈ x, i64ok n)) :
    Calls Try.prog 4 #[.agg #[.int .i64 ge, v], .agg #[.int .i64 a, .int .i64 b], u] w fun e w' => e = .returned (.bool true) ∧ Below w.heap.size w w' := by
  obtain ⟨A2, c2, rfl⟩ := a2.shape
  have hmax2 := a2.len_le
  have b0 := (Lst.alloc (Lst.alloc a0 (.cells #[.int .i64 ge, v] 24)) (.cells #[.int .i64 a, .int .i64 b] 36))
  have b2 := (Lst.alloc (Lst.alloc a2 (.cells #[.int .i64 ge, v] 24)) (.cells #[.int .i64 a, .int .i64 b] 36))
  have ht : Below ((w.alloc (.cells #[.int .i64 ge, v] 24)).alloc (.cells #[.int .i64 a, .int .i64 b] 36)).heap.size ((w.alloc (.cells #[.int .i64 ge, v] 24)).alloc (.cells #[.int .i64 a, .int .i64 b] 36)) ((w.alloc (.cells #[.int .i64 ge, v] 24)).alloc (.cells #[.int .i64 a, .int .i64 b] 36)) := Below.refl _ _
  by_cases hp0 : 1048576 < x.length
  · have hpb : decide ((1048576 : Int) < x.length) = true := by simp; omega
    go_enter Try.func4, Try.ntmps4
    go_wp2_with fail
    go_ret
    exact ⟨rfl, (by repeat (first | exact Below.refl _ _ | refine Below.drew ?_ | refine Below.alloc ?_ (by first | omega | (simp; done) | (simp; omega) | (have q0 := ht.size; simp at q0; omega) | (have q0 := ht.size; simp at q0 ⊢; omega)) _ | refine Below.setCell ?_ (by first | omega | (simp; done) | (simp; omega) | (have q0 := ht.size; simp at q0; omega) | (have q0 := ht.size; simp at q0 ⊢; omega)) _ | refine Below.trans ?_ (Below.mono ht (by first | omega | (simp; done) | (simp; omega) | (have q0 := ht.size; simp at q0; omega) | (have q0 := ht.size; simp at q0 ⊢; omega)))))⟩
  · have hpb0 : decide ((1048576 : Int) < x.length) = false := by simp; omega
    have hn2 : x.length ≤ 1048576 := by omega
    by_cases hs0 : (1048576 : Int) < gp.length
    · have hz : (if (1048576 : Int) < gp.length then (-1 : Int) else (1048576 : Int) - gp.length) = -1 := if_pos hs0
      go_enter Try.func4, Try.ntmps4
      go_wp2_with fail
      have ka00 : ((w.alloc (.cells #[.int .i64 ge, v] 24)).alloc (.cells #[.int .i64 a, .int .i64 b] 36)).cell? ⟨w.heap.size, 0, none⟩ = some (.int .i64 ge) := by simp
      have ka01 : ((w.alloc (.cells #[.int .i64 ge, v] 24)).alloc (.cells #[.int .i64 a, .int .i64 b] 36)).cell? ⟨w.heap.size, 1, none⟩ = some (v) := by simp
      have ka10 : ((w.alloc (.cells #[.int .i64 ge, v] 24)).alloc (.cells #[.int .i64 a, .int .i64 b] 36)).cell? ⟨w.heap.size + 1, 0, none⟩ = some (.int .i64 a) := by simp
      have ka11 : ((w.alloc (.cells #[.int .i64 ge, v] 24)).alloc (.cells #[.int .i64 a, .int .i64 b] 36)).cell? ⟨w.heap.size + 1, 1, none⟩ = some (.int .i64 b) := by simp
      refine (laws_szEventGraph _ _ _ _ _ ((b0.below ht (Nat.le_refl _)).more ht.size) (by omega) (by omega)).mono ?_
      rintro e w1 ⟨rfl, hB1⟩
      have s1 := hB1.size
      replace ht := ht.trans (hB1.mono ht.size)
      replace ka00 := cell_keep ka00 hB1
      replace ka01 := cell_keep ka01 hB1
      replace ka10 := cell_keep ka10 hB1
      replace ka11 := cell_keep ka11 hB1
      go_wp2_with fail
      go_ret
      exact ⟨rfl, (by repeat (first | exact Below.refl _ _ | refine Below.drew ?_ | refine Below.alloc ?_ (by first | omega | (simp; done) | (simp; omega) | (have q0 := ht.size; simp at q0; omega) | (have q0 := ht.size; simp at q0 ⊢; omega)) _ | refine Below.setCell ?_ (by first | omega | (simp; done) | (simp; omega) | (have q0 := ht.size; simp at q0; omega) | (have q0 := ht.size; simp at q0 ⊢; omega)) _ | refine Below.trans ?_ (Below.mono ht (by first | omega | (simp; done) | (simp; omega) | (have q0 := ht.size; simp at q0; omega) | (have q0 := ht.size; simp at q0 ⊢; omega)))))⟩
    · have hz0 : (if (1048576 : Int) < gp.length then (-1 : Int) else (1048576 : Int) - gp.length) = (1048576 : Int) - gp.length := if_neg hs0
      have hn0 : gp.length ≤ 1048576 := by omega
      go_enter Try.func4, Try.ntmps4
      go_wp2_with fail
      have ka00 : ((w.alloc (.cells #[.int .i64 ge, v] 24)).alloc (.cells #[.int .i64 a, .int .i64 b] 36)).cell? ⟨w.heap.size, 0, none⟩ = some (.int .i64 ge) := by simp
      have ka01 : ((w.alloc (.cells #[.int .i64 ge, v] 24)).alloc (.cells #[.int .i64 a, .int .i64 b] 36)).cell? ⟨w.heap.size, 1, none⟩ = some (v) := by simp
      have ka10 : ((w.alloc (.cells #[.int .i64 ge, v] 24)).alloc (.cells #[.int .i64 a, .int .i64 b] 36)).cell? ⟨w.heap.size + 1, 0, none⟩ = some (.int .i64 a) := by simp
      have ka11 : ((w.alloc (.cells #[.int .i64 ge, v] 24)).alloc (.cells #[.int .i64 a, .int .i64 b] 36)).cell? ⟨w.heap.size + 1, 1, none⟩ = some (.int .i64 b) := by simp
      refine (laws_szEventGraph _ _ _ _ _ ((b0.below ht (Nat.le_refl _)).more ht.size) (by omega) (by omega)).mono ?_
      rintro e w1 ⟨rfl, hB1⟩
      have s1 := hB1.size
      replace ht := ht.trans (hB1.mono ht.size)
      replace ka00 := cell_keep ka00 hB1
      replace ka01 := cell_keep ka01 hB1
      replace ka10 := cell_keep ka10 hB1
      replace ka11 := cell_keep ka11 hB1
      go_wp2_with fail
      have hbz0 := ((b0.below ht (Nat.le_refl _)).more ht.size)
      have hbz2 := ((b2.below ht (Nat.le_refl _)).more ht.size)
      go_region_held3 (fun w' => w'.cell? ⟨w.heap.size, 0, none⟩ = some (.int .i64 ge) ∧ w'.cell? ⟨w.heap.size, 1, none⟩ = some (v) ∧ w'.cell? ⟨w.heap.size + 1, 0, none⟩ = some (.int .i64 a) ∧ w'.cell? ⟨w.heap.size + 1, 1, none⟩ = some (.int .i64 b)) (first | exact ⟨ka00, ka01, ka10, ka11⟩ | exact ⟨ka00_1, ka01_1, ka10_1, ka11_1⟩ | exact ⟨ka00_2, ka01_2, ka10_2, ka11_2⟩ | exact ⟨ka00_3, ka01_3, ka10_3, ka11_3⟩ | exact ⟨ka00_4, ka01_4, ka10_4, ka11_4⟩ | go_keep) (first | (go_at_call 17; refine (laws_toEventGraph v ge gp _ (show Lst Place.cells 4 w1.drew w1.drew.heap.size _ _ from hbz0) hn0).mono ?_; rintro e w2 ⟨y0, rfl, hy0, hB2⟩; obtain ⟨Ay0, cy0, rfl⟩ := hy0.shape; have ry0 := Lib.hid hy0.lt; have ka00_1 := cell_keep (w := w1.drew) ka00 hB2; have ka01_1 := cell_keep (w := w1.drew) ka01 hB2; have ka10_1 := cell_keep (w := w1.drew) ka10 hB2; have ka11_1 := cell_keep (w := w1.drew) ka11 hB2; replace hbz0 := Lst.now (w := w1.drew) hbz0 hB2; replace hbz2 := Lst.now (w := w1.drew) hbz2 hB2) | (go_at_call 23; refine (laws_toRatio a b _).mono ?_; rintro e w3 ⟨rfl, hB3⟩; have ka00_2 := cell_keep ka00_1 hB3; have ka01_2 := cell_keep ka01_1 hB3; have ka10_2 := cell_keep ka10_1 hB3; have ka11_2 := cell_keep ka11_1 hB3; replace hbz0 := Lst.now (w := w2) hbz0 hB3; replace hbz2 := Lst.now (w := w2) hbz2 hB3; replace hy0 := hy0.now hB3) | (go_at_call 24; refine (laws_toInt64S _ x  _ hbz2 hn2).mono ?_; rintro e w4 ⟨y2, rfl, hy2, hB4⟩; obtain ⟨Ay2, cy2, rfl⟩ := hy2.shape; have ry2 := Lib.hid hy2.lt; have ka00_3 := cell_keep ka00_2 hB4; have ka01_3 := cell_keep ka01_2 hB4; have ka10_3 := cell_keep ka10_2 hB4; have ka11_3 := cell_keep ka11_2 hB4; replace hbz0 := Lst.now (w := w3) hbz0 hB4; replace hbz2 := Lst.now (w := w3) hbz2 hB4; replace hy0 := hy0.now hB4) | (go_at_call 22; refine (spec_IsTimePotential _ _ _ _ _ _ _ _ hy0.lst hy2.lst ).mono ?_; rintro e w5 ⟨rfl, hB5⟩; have ka00_4 := cell_keep ka00_3 hB5; have ka01_4 := cell_keep ka01_3 hB5; have ka10_4 := cell_keep ka10_3 hB5; have ka11_4 := cell_keep ka11_3 hB5))
      clear ka00_1 ka01_1 ka10_1 ka11_1 ka00_2 ka01_2 ka10_2 ka11_2 ka00_3 ka01_3 ka10_3 ka11_3 ka00_4 ka01_4 ka10_4 ka11_4
      clear hbz0
      clear hbz2
      have s2 := Below.size (w := w1.drew) hB2
      have s3 := Below.size (w := w2) hB3
      have s4 := Below.size (w := w3) hB4
      have s5 := Below.size (w := w4) hB5
      have hD : Below w1.heap.size w1 w5 := (((((Below.refl _ w1).drew.trans (Below.mono (w := w1.drew) hB2 (show w1.heap.size ≤ _ from by first | exact Nat.le_refl _ | (simp at *; omega) | omega))).trans (Below.mono (w := w2) hB3 (show w1.heap.size ≤ _ from by first | exact Nat.le_refl _ | (simp at *; omega) | omega))).trans (Below.mono (w := w3) hB4 (show w1.heap.size ≤ _ from by first | exact Nat.le_refl _ | (simp at *; omega) | omega))).trans (Below.mono (w := w4) hB5 (show w1.heap.size ≤ _ from by first | exact Nat.le_refl _ | (simp at *; omega) | omega)))
      replace ht := ht.trans (hD.mono ht.size)
      replace ka00 := cell_keep ka00 hD
      replace ka01 := cell_keep ka01 hD
      replace ka10 := cell_keep ka10 hD
      replace ka11 := cell_keep ka11 hD
      clear hD
      clear hy0 ry0
      clear hy2 ry2
      go_wp2_with fail
      refine (laws_toEventGraph _ _ _ _ ((b0.below ht (Nat.le_refl _)).more ht.size) hn0).mono ?_
      rintro e w6 ⟨x0, rfl, hx0, hB6⟩
      obtain ⟨Ax0, cx0, rfl⟩ := hx0.shape
      have rx0 := Lib.hid hx0.lt
      have s6 := hB6.size
      replace ht := ht.trans (hB6.mono ht.size)
      replace ka00 := cell_keep ka00 hB6
      replace ka01 := cell_keep ka01 hB6
      replace ka10 := cell_keep ka10 hB6
      replace ka11 := cell_keep ka11 hB6
      have hA1 : Below w6.heap.size w6 (w6.alloc (.cells #[.int .i64 ge, .slice Ax0 gp.length cx0] 28)) := (Below.refl _ _).alloc (Nat.le_refl _) _
      have sA1 : w6.heap.size < (w6.alloc (.cells #[.int .i64 ge, .slice Ax0 gp.length cx0] 28)).heap.size := by simp
      replace ht := ht.trans (hA1.mono ht.size)
      replace hx0 := hx0.now hA1
      replace ka00 := cell_keep ka00 hA1
      replace ka01 := cell_keep ka01 hA1
      replace ka10 := cell_keep ka10 hA1
      replace ka11 := cell_keep ka11 hA1
      have kx00 : (w6.alloc (.cells #[.int .i64 ge, .slice Ax0 gp.length cx0] 28)).cell? ⟨w6.heap.size, 0, none⟩ = some (.int .i64 ge) := by simp
      have kx01 : (w6.alloc (.cells #[.int .i64 ge, .slice Ax0 gp.length cx0] 28)).cell? ⟨w6.heap.size, 1, none⟩ = some (.slice Ax0 gp.length cx0) := by simp
      clear hA1
      go_wp2_with fail
      refine (laws_toInt64S _ _ _ ((b2.below ht (Nat.le_refl _)).more ht.size) hn2).mono ?_
      rintro e w7 ⟨x2, rfl, hx2, hB7⟩
      obtain ⟨Ax2, cx2, rfl⟩ := hx2.shape
      have rx2 := Lib.hid hx2.lt
      have s7 := hB7.size
      replace ht := ht.trans (hB7.mono ht.size)
      replace hx0 := hx0.now hB7
      replace ka00 := cell_keep ka00 hB7
      replace ka01 := cell_keep ka01 hB7
      replace ka10 := cell_keep ka10 hB7
      replace ka11 := cell_keep ka11 hB7
      replace kx00 := cell_keep kx00 hB7
      replace kx01 := cell_keep kx01 hB7
      go_wp2_with fail
      have hqx0 := hx0
      have hqx2 := hx2
      go_region_held3 (fun w' => w'.cell? ⟨w6.heap.size, 0, none⟩ = some (.int .i64 ge) ∧ w'.cell? ⟨w6.heap.size, 1, none⟩ = some (.slice Ax0 gp.length cx0) ∧ w'.cell? ⟨w.heap.size + 1, 0, none⟩ = some (.int .i64 a) ∧ w'.cell? ⟨w.heap.size + 1, 1, none⟩ = some (.int .i64 b)) (first | exact ⟨kx00, kx01, ka10, ka11⟩ | exact ⟨kx00_1, kx01_1, ka10_1, ka11_1⟩ | exact ⟨kx00_2, kx01_2, ka10_2, ka11_2⟩ | go_keep) (first | (go_at_call 23; refine (laws_toRatio a b _).mono ?_; rintro e w8 ⟨rfl, hB8⟩; have kx00_1 := cell_keep (w := w7.drew) kx00 hB8; have kx01_1 := cell_keep (w := w7.drew) kx01 hB8; have ka10_1 := cell_keep (w := w7.drew) ka10 hB8; have ka11_1 := cell_keep (w := w7.drew) ka11 hB8; replace hqx0 := Own.now (w := w7.drew) hqx0 hB8; replace hqx2 := Own.now (w := w7.drew) hqx2 hB8) | (go_at_call 25; refine (impl_IsTimePotential _ _ _ _ _ _ _ _ hqx0.lst hqx2.lst ).mono ?_; rintro e w9 ⟨rfl, hB9⟩; have kx00_2 := cell_keep kx00_1 hB9; have kx01_2 := cell_keep kx01_1 hB9; have ka10_2 := cell_keep ka10_1 hB9; have ka11_2 := cell_keep ka11_1 hB9))
      clear kx00_1 kx01_1 ka10_1 ka11_1 kx00_2 kx01_2 ka10_2 ka11_2
      have s8 := Below.size (w := w7.drew) hB8
      have s9 := Below.size (w := w8) hB9
      have hD : Below w7.heap.size w7 w9 := (((Below.refl _ w7).drew.trans (Below.mono (w := w7.drew) hB8 (show w7.heap.size ≤ _ from by first | exact Nat.le_refl _ | (simp at *; omega) | omega))).trans (Below.mono (w := w8) hB9 (show w7.heap.size ≤ _ from by first | exact Nat.le_refl _ | (simp at *; omega) | omega)))
      replace ht := ht.trans (hD.mono ht.size)
      replace hx0 := hx0.now hD
      replace hx2 := hx2.now hD
      replace ka00 := cell_keep ka00 hD
      replace ka01 := cell_keep ka01 hD
      replace ka10 := cell_keep ka10 hD
      replace ka11 := cell_keep ka11 hD
      replace kx00 := cell_keep kx00 hD
      replace kx01 := cell_keep kx01 hD
      clear hD
      clear hqx0
      clear hqx2
      go_wp2_with fail
      have hbz := ((b0.below ht (Nat.le_refl _)).more ht.size)
      go_region_held3 (fun w' => w'.cell? ⟨w6.heap.size, 0, none⟩ = some (.int .i64 ge) ∧ w'.cell? ⟨w6.heap.size, 1, none⟩ = some (.slice Ax0 gp.length cx0) ∧ w'.cell? ⟨w.heap.size, 0, none⟩ = some (.int .i64 ge) ∧ w'.cell? ⟨w.heap.size, 1, none⟩ = some (v)) (first | exact ⟨kx00, kx01, ka00, ka01⟩ | exact ⟨fkx00, fkx01, fka00, fka01⟩ | exact ⟨ekx00, ekx01, eka00, eka01⟩ | go_keep) (first | (go_at_call 17; refine (laws_toEventGraph _ _ _ _ (show Lst Place.cells 4 w9.drew w9.drew.heap.size _ _ from hbz) hn0).mono ?_; rintro e w10 ⟨z0, rfl, hz0, hB10⟩; have fkx00 := cell_keep (w := w9.drew) kx00 hB10; have fkx01 := cell_keep (w := w9.drew) kx01 hB10; have fka00 := cell_keep (w := w9.drew) ka00 hB10; have fka01 := cell_keep (w := w9.drew) ka01 hB10) | (go_at_call 19; refine (laws_eqEventGraph _ _ _ _ _ _ _ (Lst.now (w := w9.drew) hx0.lst hB10) hz0.lst).mono ?_; rintro e w11 ⟨rfl, hB11⟩; have ekx00 := cell_keep fkx00 hB11; have ekx01 := cell_keep fkx01 hB11; have eka00 := cell_keep fka00 hB11; have eka01 := cell_keep fka01 hB11))
      clear fkx00 fkx01 fka00 fka01 ekx00 ekx01 eka00 eka01
      have s10 := Below.size (w := w9.drew) hB10
      have s11 := hB11.size
      have hD : Below w9.heap.size w9 w11 := ((Below.refl _ w9).drew.trans hB10).trans (hB11.mono s10)
      replace ht := ht.trans (hD.mono ht.size)
      replace hx0 := hx0.now hD
      replace hx2 := hx2.now hD
      replace ka00 := cell_keep ka00 hD
      replace ka01 := cell_keep ka01 hD
      replace ka10 := cell_keep ka10 hD
      replace ka11 := cell_keep ka11 hD
      replace kx00 := cell_keep kx00 hD
      replace kx01 := cell_keep kx01 hD
      clear hD
      go_wp2_with fail
      refine (laws_toInt64S _ _ _ ((b2.below ht (Nat.le_refl _)).more ht.size) hn2).mono ?_
      rintro e w12 ⟨z2, rfl, hz2, hB12⟩
      obtain ⟨Az2, cz2, rfl⟩ := hz2.shape
      have rz2 := Lib.hid hz2.lt
      have s12 := hB12.size
      replace ht := ht.trans (hB12.mono ht.size)
      replace hx0 := hx0.now hB12
      replace hx2 := hx2.now hB12
      replace ka00 := cell_keep ka00 hB12
      replace ka01 := cell_keep ka01 hB12
      replace ka10 := cell_keep ka10 hB12
      replace ka11 := cell_keep ka11 hB12
      replace kx00 := cell_keep kx00 hB12
      replace kx01 := cell_keep kx01 hB12
      go_wp2_with fail
      refine (laws_eqInt64S _ _ _ _ _ hx2.lst hz2.lst).mono ?_
      rintro e w13 ⟨rfl, hB13⟩
      have s13 := hB13.size
      replace ht := ht.trans (hB13.mono ht.size)
      replace hx0 := hx0.now hB13
      replace hx2 := hx2.now hB13
      replace hz2 := hz2.now hB13
      replace ka00 := cell_keep ka00 hB13
      replace ka01 := cell_keep ka01 hB13
      replace ka10 := cell_keep ka10 hB13
      replace ka11 := cell_keep ka11 hB13
      replace kx00 := cell_keep kx00 hB13
      replace kx01 := cell_keep kx01 hB13
      clear hz2 rz2
      go_wp2_with fail
      go_ret
      exact ⟨rfl, (by repeat (first | exact Below.refl _ _ | refine Below.drew ?_ | refine Below.alloc ?_ (by first | omega | (simp; done) | (simp; omega) | (have q0 := ht.size; simp at q0; omega) | (have q0 := ht.size; simp at q0 ⊢; omega)) _ | refine Below.setCell ?_ (by first | omega | (simp; done) | (simp; omega) | (have q0 := ht.size; simp at q0; omega) | (have q0 := ht.size; simp at q0 ⊢; omega)) _ | refine Below.trans ?_ (Below.mono ht (by first | omega | (simp; done) | (simp; omega) | (have q0 := ht.size; simp at q0; omega) | (have q0 := ht.size; simp at q0 ⊢; omega)))))⟩

theorem IsTimePotential_own : ownKnob Try.prog.godebug = none := by kernel_rfl
theorem IsTimePotential_laidOut : laidOutB Try.prog = true := by kernel_rfl
set_option maxRecDepth 100000 in
theorem IsTimePotential_lifted (os : Os) (started : os.Started) (H : Type) (enc : TypeId × Value → H) :
    ReturnsInHanded {} Try.checked os 4 .any (Rows.fnExactIsTimePotentialSpec.pre6 enc Try.prog Try.f4 Rows.fnExactIsTimePotentialRow.domain false) (Rows.fnExactIsTimePotentialSpec.post enc Try.prog Try.f4 false true false false) := by
  refine returnsInHanded_of_change (C := Try.checked) IsTimePotential_own started (by kernel_rfl) Try.func4
    (ChangeSpec.witness6 (enc := enc) (C := Try.checked) false ⟨#[], #[.agg #[.int .i64 0, .slice none 0 0], .agg #[.int .i64 0, .int .i64 0], .slice none 0 0], []⟩ 8 (by kernel_rfl) (by kernel_rfl) (by kernel_rfl) (by kernel_rfl)) ?_
  intro W base args ds gs before hval0 hW hcnd _
  have hval : ∀ (j : Nat) t v, Try.f4.params[j]? = some t → args[j]? = some v → Value.okWide Try.prog W .any base t v := hval0
  have hW' := hW
  obtain ⟨p, q, hA0, hV, rfl, hfz, hnd⟩ := hW
  have hA : DataW.TrodAll enc Try.prog W 0 (fun _ => true) true Try.f4.params.toList args.toList ds p := hA0
  rw [Try.params4] at hA hval
  obtain ⟨v0, vs0, d0, ds0, p0, q0, hargs, rfl, rfl, h0, r0⟩ := trodAll_cons hA
  obtain ⟨v1, vs1, d1, ds1, p1, q1, rfl, rfl, rfl, h1, r1⟩ := trodAll_cons r0
  obtain ⟨v2, vs2, d2, ds2, p2, q2, rfl, rfl, rfl, h2, r2⟩ := trodAll_cons r1
  obtain ⟨rfl, rfl, rfl⟩ := trodAll_nil r2
  obtain rfl : args = #[v0, v1, v2] := by cases args; simp_all
  obtain ⟨rfl, rfl⟩ := trodVars_none hV
  have k0 := h0
  have lt0 : ∀ x ∈ p0, x.block < W.heap.size := by obtain ⟨m, hm⟩ := k0; exact DataW.trod_lt m _ _ _ hm
  have k1 := h1
  have lt1 : ∀ x ∈ p1, x.block < W.heap.size := by obtain ⟨m, hm⟩ := k1; exact DataW.trod_lt m _ _ _ hm
  have k2 := h2
  have lt2 : ∀ x ∈ p2, x.block < W.heap.size := by obtain ⟨m, hm⟩ := k2; exact DataW.trod_lt m _ _ _ hm
  obtain ⟨e0, s0, y0, u0, fl0, rfl, _, _, hy0, hu0⟩ := Joins.open_agg2 Try.underlying24 (by kernel_rfl) (by kernel_rfl) (hval 0 24 v0 rfl rfl) h0
  obtain ⟨g0, he0, _, w0⟩ := DataW.trod_int Try.underlying2 hy0
  simp only [List.cons.injEq, and_true] at he0
  subst he0
  obtain ⟨len0, z0, hR0⟩ := open_structs Try.underlying22 Try.underlying119 (by kernel_rfl) (by kernel_rfl) (by decide) (by intro j f hj; match j, hj with | 0, hj => (injection hj with hj; subst hj; exact Try.underlying2) | 1, hj => (injection hj with hj; subst hj; exact Try.underlying2) | 2, hj => (injection hj with hj; subst hj; exact Try.underlying2) | 3, hj => (injection hj with hj; subst hj; exact Try.underlying2) | n + 4, hj => simp at hj) (hu0)
  have a0 := rows_lst Place.cells Place.cells_len (fun i => ⟨z0 i 0, z0 i 1, z0 i 2, z0 i 3⟩) (by intro i j hj; match j, hj with | 0, _ => rfl | 1, _ => rfl | 2, _ => rfl | 3, _ => rfl | n + 4, hj => omega) hR0
  have o0 : Hid (∀ x ∈ (List.range len0).map fun i => (⟨z0 i 0, z0 i 1, z0 i 2, z0 i 3⟩ : Place), x.ok) := by
    intro x hx
    obtain ⟨i, hi, rfl⟩ := List.mem_map.1 hx
    have hi := List.mem_range.1 hi
    exact ⟨hR0.2.2 i 0 hi (by decide), hR0.2.2 i 1 hi (by decide), hR0.2.2 i 2 hi (by decide), hR0.2.2 i 3 hi (by decide)⟩
  have o0 : Hid (i64ok g0 ∧ ∀ x ∈ (List.range len0).map fun i => (⟨z0 i 0, z0 i 1, z0 i 2, z0 i 3⟩ : Place), x.ok) := ⟨wf_i64ok w0, o0⟩
  obtain ⟨e1, s1, y1, u1, fl1, rfl, _, _, hy1, hu1⟩ := Joins.open_agg2 Try.underlying36 (by kernel_rfl) (by kernel_rfl) (hval 1 36 v1 rfl rfl) h1
  obtain ⟨g1, ge1, _, gw1⟩ := DataW.trod_int Try.underlying2 hy1
  simp only [List.cons.injEq, and_true] at ge1
  subst ge1
  obtain ⟨i1, ie1, _, iw1⟩ := DataW.trod_int Try.underlying2 hu1
  simp only [List.cons.injEq, and_true] at ie1
  subst ie1
  have o1 : Hid (i64ok g1 ∧ i64ok i1) := ⟨wf_i64ok gw1, wf_i64ok iw1⟩
  obtain ⟨A2, n2, c2, rfl⟩ := okWide_slice Try.underlying37 (hval 2 37 v2 rfl rfl)
  obtain ⟨fuel2, hf2⟩ := h2
  obtain ⟨l2, a2, o2⟩ := open_i64s Try.underlying37 Try.underlying2 (by kernel_rfl) (show DataW.trod enc Try.prog W 0 (fun _ => true) true fuel2 37 [_] = _ by simpa [Value.cells] using hf2)
  clear hA0 hval0
  refine (law_IsTimePotential _ _ _ _ _ _ _ W a0 a2 o0 o1 o2).mono fun e W' ⟨he, bel⟩ => ?_
  subst he
  exact ⟨_, rfl, _, _, _, [], _, [], hW', trodAll_mk1 (shut_bool Try.underlying4 _), (trodAll_cons_mk (Below.trod IsTimePotential_laidOut (by kernel_rfl) (of_decide_eq_true (by kernel_rfl)) k0 bel lt0) (trodAll_cons_mk (Below.trod IsTimePotential_laidOut (by kernel_rfl) (of_decide_eq_true (by kernel_rfl)) k1 bel lt1) (trodAll_cons_mk (Below.trod IsTimePotential_laidOut (by kernel_rfl) (of_decide_eq_true (by kernel_rfl)) k2 bel lt2) trodAll_mk0))), rfl, bel.frame _, fun h => by cases h⟩
theorem IsTimePotential_over : Rows.fnExactIsTimePotentialRow.holds Try.pinned (OpenSpec.ofChange Rows.fnExactIsTimePotentialSpec) :=
  OpenClaim.holds_of_wide 4 Try.f4 rfl rfl rfl rfl rfl rfl rfl ⟨rfl, rfl, rfl, rfl, rfl⟩ rfl rfl rfl rfl rfl (by kernel_rfl) Try.func4 (by kernel_rfl)
    (of_decide_eq_true (by kernel_rfl)) (by unfold Func.isWrapper; first | (rw [if_pos (by decide +kernel)]; kernel_rfl) | (rw [if_neg (by decide +kernel)]; exact ⟨rfl, rfl⟩))
    (fun os started H enc _ => IsTimePotential_lifted os started H enc)
/-- The given statement. -/
theorem IsTimePotential_proved : Rows.FnExactIsTimePotentialSaid := IsTimePotential_over
end Go.Proofs.Ytobbidlbihnodaa
