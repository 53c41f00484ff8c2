/-
  FnExactLeastRooms returns true for every input: the program's LeastRooms gives what the reference's gives (the least rooms); nothing that was there turns.
  Conditions: none beyond the statement's own.
-/
import Derived.Test.YtbdklhahbeiffaaLstR
import Derived.Test.YtbdklhahbeiffaaGLaw
import Derived.Test.YtbdklhahbeiffaaOpen
namespace Go.Proofs.Ytbdklhahbeiffaa
open Go.RowKit Go.ChangeShapes Go.WideShapes Go.ChangeAt Go.Deep
set_option linter.unusedVariables false
set_option linter.unusedSimpArgs false

set_option maxHeartbeats 4000000 in
set_option maxRecDepth 100000 in
theorem law_LeastRooms (v : Value) (ge : Int) (gp : List Place) (u : Value) (l : List Int) (a b : Int) (w : World) (a0 : Lst Place.cells 4 w w.heap.size v gp) (a1 : Lst intCell 1 w w.heap.size u l) (o0 : Hid (i64ok ge ∧ ∀ x ∈ gp, x.ok)) (o1 : Hid (∀ n ∈ l, i64ok n)) (o2 : Hid (i64ok a ∧ i64ok b)) :
    Calls Try.prog 4 #[.agg #[.int .i64 ge, v], u, .agg #[.int .i64 a, .int .i64 b]] w fun e w' => e = .returned (.bool true) ∧ Below w.heap.size w w' := by
  obtain ⟨A1, c1, rfl⟩ := a1.shape
  have hmax1 := a1.len_le
  have b0 := (Lst.alloc (Lst.alloc a0 (.cells #[.int .i64 ge, v] 24)) (.cells #[.int .i64 a, .int .i64 b] 26))
  have b1 := (Lst.alloc (Lst.alloc a1 (.cells #[.int .i64 ge, v] 24)) (.cells #[.int .i64 a, .int .i64 b] 26))
  have ht : Below ((w.alloc (.cells #[.int .i64 ge, v] 24)).alloc (.cells #[.int .i64 a, .int .i64 b] 26)).heap.size ((w.alloc (.cells #[.int .i64 ge, v] 24)).alloc (.cells #[.int .i64 a, .int .i64 b] 26)) ((w.alloc (.cells #[.int .i64 ge, v] 24)).alloc (.cells #[.int .i64 a, .int .i64 b] 26)) := Below.refl _ _
  by_cases hp0 : 1048576 < l.length
  · have hpb : decide ((1048576 : Int) < l.length) = true := by simp; omega
    go_enter Try.func4, Try.ntmps4
    go_wp2_with fail
    go_ret
    exact ⟨rfl, (by repeat (first | exact Below.refl _ _ | refine Below.drew ?_ | refine Below.alloc ?_ (by first | omega | (simp; done) | (simp; omega) | (have q0 := ht.size; simp at q0; omega) | (have q0 := ht.size; simp at q0 ⊢; omega)) _ | refine Below.setCell ?_ (by first | omega | (simp; done) | (simp; omega) | (have q0 := ht.size; simp at q0; omega) | (have q0 := ht.size; simp at q0 ⊢; omega)) _ | refine Below.trans ?_ (Below.mono ht (by first | omega | (simp; done) | (simp; omega) | (have q0 := ht.size; simp at q0; omega) | (have q0 := ht.size; simp at q0 ⊢; omega)))))⟩
  · have hpb0 : decide ((1048576 : Int) < l.length) = false := by simp; omega
    have hn1 : l.length ≤ 1048576 := by omega
    by_cases hs0 : (1048576 : Int) < gp.length
    · have hz : (if (1048576 : Int) < gp.length then (-1 : Int) else (1048576 : Int) - gp.length) = -1 := if_pos hs0
      go_enter Try.func4, Try.ntmps4
      go_wp2_with fail
      have ka00 : ((w.alloc (.cells #[.int .i64 ge, v] 24)).alloc (.cells #[.int .i64 a, .int .i64 b] 26)).cell? ⟨w.heap.size, 0, none⟩ = some (.int .i64 ge) := by simp
      have ka01 : ((w.alloc (.cells #[.int .i64 ge, v] 24)).alloc (.cells #[.int .i64 a, .int .i64 b] 26)).cell? ⟨w.heap.size, 1, none⟩ = some (v) := by simp
      have ka20 : ((w.alloc (.cells #[.int .i64 ge, v] 24)).alloc (.cells #[.int .i64 a, .int .i64 b] 26)).cell? ⟨w.heap.size + 1, 0, none⟩ = some (.int .i64 a) := by simp
      have ka21 : ((w.alloc (.cells #[.int .i64 ge, v] 24)).alloc (.cells #[.int .i64 a, .int .i64 b] 26)).cell? ⟨w.heap.size + 1, 1, none⟩ = some (.int .i64 b) := by simp
      refine (laws_szEventGraph _ _ _ _ _ ((b0.below ht (Nat.le_refl _)).more ht.size) (by omega) (by omega)).mono ?_
      rintro e w1 ⟨rfl, hB1⟩
      have s1 := hB1.size
      replace ht := ht.trans (hB1.mono ht.size)
      replace ka00 := cell_keep ka00 hB1
      replace ka01 := cell_keep ka01 hB1
      replace ka20 := cell_keep ka20 hB1
      replace ka21 := cell_keep ka21 hB1
      go_wp2_with fail
      go_ret
      exact ⟨rfl, (by repeat (first | exact Below.refl _ _ | refine Below.drew ?_ | refine Below.alloc ?_ (by first | omega | (simp; done) | (simp; omega) | (have q0 := ht.size; simp at q0; omega) | (have q0 := ht.size; simp at q0 ⊢; omega)) _ | refine Below.setCell ?_ (by first | omega | (simp; done) | (simp; omega) | (have q0 := ht.size; simp at q0; omega) | (have q0 := ht.size; simp at q0 ⊢; omega)) _ | refine Below.trans ?_ (Below.mono ht (by first | omega | (simp; done) | (simp; omega) | (have q0 := ht.size; simp at q0; omega) | (have q0 := ht.size; simp at q0 ⊢; omega)))))⟩
    · have hz0 : (if (1048576 : Int) < gp.length then (-1 : Int) else (1048576 : Int) - gp.length) = (1048576 : Int) - gp.length := if_neg hs0
      have hn0 : gp.length ≤ 1048576 := by omega
      have hlen0 : (leastRF ge gp l a b).1.length ≤ 1048576 := leastRF_len ge gp l a b
      go_enter Try.func4, Try.ntmps4
      go_wp2_with fail
      have ka00 : ((w.alloc (.cells #[.int .i64 ge, v] 24)).alloc (.cells #[.int .i64 a, .int .i64 b] 26)).cell? ⟨w.heap.size, 0, none⟩ = some (.int .i64 ge) := by simp
      have ka01 : ((w.alloc (.cells #[.int .i64 ge, v] 24)).alloc (.cells #[.int .i64 a, .int .i64 b] 26)).cell? ⟨w.heap.size, 1, none⟩ = some (v) := by simp
      have ka20 : ((w.alloc (.cells #[.int .i64 ge, v] 24)).alloc (.cells #[.int .i64 a, .int .i64 b] 26)).cell? ⟨w.heap.size + 1, 0, none⟩ = some (.int .i64 a) := by simp
      have ka21 : ((w.alloc (.cells #[.int .i64 ge, v] 24)).alloc (.cells #[.int .i64 a, .int .i64 b] 26)).cell? ⟨w.heap.size + 1, 1, none⟩ = some (.int .i64 b) := by simp
      refine (laws_szEventGraph _ _ _ _ _ ((b0.below ht (Nat.le_refl _)).more ht.size) (by omega) (by omega)).mono ?_
      rintro e w1 ⟨rfl, hB1⟩
      have s1 := hB1.size
      replace ht := ht.trans (hB1.mono ht.size)
      replace ka00 := cell_keep ka00 hB1
      replace ka01 := cell_keep ka01 hB1
      replace ka20 := cell_keep ka20 hB1
      replace ka21 := cell_keep ka21 hB1
      go_wp2_with fail
      have hbz0 := ((b0.below ht (Nat.le_refl _)).more ht.size)
      have hbz1 := ((b1.below ht (Nat.le_refl _)).more ht.size)
      go_region_held3 (fun w' => w'.cell? ⟨w.heap.size, 0, none⟩ = some (.int .i64 ge) ∧ w'.cell? ⟨w.heap.size, 1, none⟩ = some (v) ∧ w'.cell? ⟨w.heap.size + 1, 0, none⟩ = some (.int .i64 a) ∧ w'.cell? ⟨w.heap.size + 1, 1, none⟩ = some (.int .i64 b)) (first | exact ⟨ka00, ka01, ka20, ka21⟩ | exact ⟨ka00_1, ka01_1, ka20_1, ka21_1⟩ | exact ⟨ka00_2, ka01_2, ka20_2, ka21_2⟩ | exact ⟨ka00_3, ka01_3, ka20_3, ka21_3⟩ | exact ⟨ka00_4, ka01_4, ka20_4, ka21_4⟩ | go_keep) (first | (go_at_call 10; refine (laws_toEventGraph v ge gp _ (show Lst Place.cells 4 w1.drew w1.drew.heap.size _ _ from hbz0) hn0).mono ?_; rintro e w2 ⟨y0, rfl, hy0, hB2⟩; obtain ⟨Ay0, cy0, rfl⟩ := hy0.shape; have ry0 := Lib.hid hy0.lt; have ka00_1 := cell_keep (w := w1.drew) ka00 hB2; have ka01_1 := cell_keep (w := w1.drew) ka01 hB2; have ka20_1 := cell_keep (w := w1.drew) ka20 hB2; have ka21_1 := cell_keep (w := w1.drew) ka21 hB2; replace hbz0 := Lst.now (w := w1.drew) hbz0 hB2; replace hbz1 := Lst.now (w := w1.drew) hbz1 hB2) | (go_at_call 15; refine (laws_toInt64S _ l  _ hbz1 hn1).mono ?_; rintro e w3 ⟨y1, rfl, hy1, hB3⟩; obtain ⟨Ay1, cy1, rfl⟩ := hy1.shape; have ry1 := Lib.hid hy1.lt; have ka00_2 := cell_keep ka00_1 hB3; have ka01_2 := cell_keep ka01_1 hB3; have ka20_2 := cell_keep ka20_1 hB3; have ka21_2 := cell_keep ka21_1 hB3; replace hbz0 := Lst.now (w := w2) hbz0 hB3; replace hbz1 := Lst.now (w := w2) hbz1 hB3; replace hy0 := hy0.now hB3) | (go_at_call 11; refine (laws_toRatio a b _).mono ?_; rintro e w4 ⟨rfl, hB4⟩; have ka00_3 := cell_keep ka00_2 hB4; have ka01_3 := cell_keep ka01_2 hB4; have ka20_3 := cell_keep ka20_2 hB4; have ka21_3 := cell_keep ka21_2 hB4; replace hbz0 := Lst.now (w := w3) hbz0 hB4; replace hbz1 := Lst.now (w := w3) hbz1 hB4; replace hy0 := hy0.now hB4; replace hy1 := hy1.now hB4) | (go_at_call 14; refine (spec_LeastRooms _ _ _ _ _ _ _ _ hy0.lst hy1.lst ).mono ?_; rintro e w5 ⟨p0, rfl, hp0, hB5⟩; obtain ⟨Ap0, cp0, rfl⟩ := hp0.shape; have rp0 := Lib.hid hp0.lt; have ka00_4 := cell_keep ka00_3 hB5; have ka01_4 := cell_keep ka01_3 hB5; have ka20_4 := cell_keep ka20_3 hB5; have ka21_4 := cell_keep ka21_3 hB5))
      clear ka00_1 ka01_1 ka20_1 ka21_1 ka00_2 ka01_2 ka20_2 ka21_2 ka00_3 ka01_3 ka20_3 ka21_3 ka00_4 ka01_4 ka20_4 ka21_4
      clear hbz0
      clear hbz1
      have s2 := Below.size (w := w1.drew) hB2
      have s3 := Below.size (w := w2) hB3
      have s4 := Below.size (w := w3) hB4
      have s5 := Below.size (w := w4) hB5
      have dq2 : w1.drew.heap.size = w1.heap.size := rfl
      have hD : Below w1.heap.size w1 w5 := (((((Below.refl _ w1).drew.trans (Below.mono (w := w1.drew) hB2 (show w1.heap.size ≤ _ from by first | exact Nat.le_refl _ | (simp at *; omega) | omega))).trans (Below.mono (w := w2) hB3 (show w1.heap.size ≤ _ from by first | exact Nat.le_refl _ | (simp at *; omega) | omega))).trans (Below.mono (w := w3) hB4 (show w1.heap.size ≤ _ from by first | exact Nat.le_refl _ | (simp at *; omega) | omega))).trans (Below.mono (w := w4) hB5 (show w1.heap.size ≤ _ from by first | exact Nat.le_refl _ | (simp at *; omega) | omega)))
      replace ht := ht.trans (hD.mono ht.size)
      replace ka00 := cell_keep ka00 hD
      replace ka01 := cell_keep ka01 hD
      replace ka20 := cell_keep ka20 hD
      replace ka21 := cell_keep ka21 hD
      clear hD
      clear hy0 ry0
      clear hy1 ry1
      go_wp2_with fail
      refine (laws_toEventGraph _ _ _ _ ((b0.below ht (Nat.le_refl _)).more ht.size) hn0).mono ?_
      rintro e w6 ⟨x0, rfl, hx0, hB6⟩
      obtain ⟨Ax0, cx0, rfl⟩ := hx0.shape
      have rx0 := Lib.hid hx0.lt
      have s6 := hB6.size
      replace ht := ht.trans (hB6.mono ht.size)
      replace hp0 := hp0.now hB6
      replace ka00 := cell_keep ka00 hB6
      replace ka01 := cell_keep ka01 hB6
      replace ka20 := cell_keep ka20 hB6
      replace ka21 := cell_keep ka21 hB6
      have hA1 : Below w6.heap.size w6 (w6.alloc (.cells #[.int .i64 ge, .slice Ax0 gp.length cx0] 32)) := (Below.refl _ _).alloc (Nat.le_refl _) _
      have sA1 : w6.heap.size < (w6.alloc (.cells #[.int .i64 ge, .slice Ax0 gp.length cx0] 32)).heap.size := by simp
      replace ht := ht.trans (hA1.mono ht.size)
      replace hp0 := hp0.now hA1
      replace hx0 := hx0.now hA1
      replace ka00 := cell_keep ka00 hA1
      replace ka01 := cell_keep ka01 hA1
      replace ka20 := cell_keep ka20 hA1
      replace ka21 := cell_keep ka21 hA1
      have kx00 : (w6.alloc (.cells #[.int .i64 ge, .slice Ax0 gp.length cx0] 32)).cell? ⟨w6.heap.size, 0, none⟩ = some (.int .i64 ge) := by simp
      have kx01 : (w6.alloc (.cells #[.int .i64 ge, .slice Ax0 gp.length cx0] 32)).cell? ⟨w6.heap.size, 1, none⟩ = some (.slice Ax0 gp.length cx0) := by simp
      clear hA1
      go_wp2_with fail
      refine (laws_toInt64S _ _ _ ((b1.below ht (Nat.le_refl _)).more ht.size) hn1).mono ?_
      rintro e w7 ⟨x1, rfl, hx1, hB7⟩
      obtain ⟨Ax1, cx1, rfl⟩ := hx1.shape
      have rx1 := Lib.hid hx1.lt
      have s7 := hB7.size
      replace ht := ht.trans (hB7.mono ht.size)
      replace hp0 := hp0.now hB7
      replace hx0 := hx0.now hB7
      replace ka00 := cell_keep ka00 hB7
      replace ka01 := cell_keep ka01 hB7
      replace ka20 := cell_keep ka20 hB7
      replace ka21 := cell_keep ka21 hB7
      replace kx00 := cell_keep kx00 hB7
      replace kx01 := cell_keep kx01 hB7
      go_wp2_with fail
      have hqx0 := hx0
      have hqx1 := hx1
      go_region_held3 (fun w' => w'.cell? ⟨w6.heap.size, 0, none⟩ = some (.int .i64 ge) ∧ w'.cell? ⟨w6.heap.size, 1, none⟩ = some (.slice Ax0 gp.length cx0) ∧ w'.cell? ⟨w.heap.size + 1, 0, none⟩ = some (.int .i64 a) ∧ w'.cell? ⟨w.heap.size + 1, 1, none⟩ = some (.int .i64 b)) (first | exact ⟨kx00, kx01, ka20, ka21⟩ | exact ⟨kx00_1, kx01_1, ka20_1, ka21_1⟩ | exact ⟨kx00_2, kx01_2, ka20_2, ka21_2⟩ | go_keep) (first | (go_at_call 11; refine (laws_toRatio a b _).mono ?_; rintro e w8 ⟨rfl, hB8⟩; have kx00_1 := cell_keep (w := w7.drew) kx00 hB8; have kx01_1 := cell_keep (w := w7.drew) kx01 hB8; have ka20_1 := cell_keep (w := w7.drew) ka20 hB8; have ka21_1 := cell_keep (w := w7.drew) ka21 hB8; replace hqx0 := Own.now (w := w7.drew) hqx0 hB8; replace hqx1 := Own.now (w := w7.drew) hqx1 hB8) | (go_at_call 16; refine (impl_LeastRooms _ _ _ _ _ _ _ _ hqx0.lst hqx1.lst ).mono ?_; rintro e w9 ⟨g0, rfl, hg0, hB9⟩; obtain ⟨Ag0, cg0, rfl⟩ := hg0.shape; have rg0 := Lib.hid hg0.lt; have kx00_2 := cell_keep kx00_1 hB9; have kx01_2 := cell_keep kx01_1 hB9; have ka20_2 := cell_keep ka20_1 hB9; have ka21_2 := cell_keep ka21_1 hB9))
      clear kx00_1 kx01_1 ka20_1 ka21_1 kx00_2 kx01_2 ka20_2 ka21_2
      have s8 := Below.size (w := w7.drew) hB8
      have s9 := Below.size (w := w8) hB9
      have dq8 : w7.drew.heap.size = w7.heap.size := rfl
      have hD : Below w7.heap.size w7 w9 := (((Below.refl _ w7).drew.trans (Below.mono (w := w7.drew) hB8 (show w7.heap.size ≤ _ from by first | exact Nat.le_refl _ | (simp at *; omega) | omega))).trans (Below.mono (w := w8) hB9 (show w7.heap.size ≤ _ from by first | exact Nat.le_refl _ | (simp at *; omega) | omega)))
      replace ht := ht.trans (hD.mono ht.size)
      replace hp0 := hp0.now hD
      replace hx0 := hx0.now hD
      replace hx1 := hx1.now hD
      replace ka00 := cell_keep ka00 hD
      replace ka01 := cell_keep ka01 hD
      replace ka20 := cell_keep ka20 hD
      replace ka21 := cell_keep ka21 hD
      replace kx00 := cell_keep kx00 hD
      replace kx01 := cell_keep kx01 hD
      clear hD
      clear hqx0
      clear hqx1
      go_wp2_with fail
      refine (laws_eqInt64S _ _ _ _ _ hg0.lst hp0.lst).mono ?_
      rintro e w10 ⟨rfl, hB10⟩
      have s10 := hB10.size
      replace ht := ht.trans (hB10.mono ht.size)
      replace hp0 := hp0.now hB10
      replace hx0 := hx0.now hB10
      replace hx1 := hx1.now hB10
      replace hg0 := hg0.now hB10
      replace ka00 := cell_keep ka00 hB10
      replace ka01 := cell_keep ka01 hB10
      replace ka20 := cell_keep ka20 hB10
      replace ka21 := cell_keep ka21 hB10
      replace kx00 := cell_keep kx00 hB10
      replace kx01 := cell_keep kx01 hB10
      go_wp2_with fail
      have hbz := ((b0.below ht (Nat.le_refl _)).more ht.size)
      go_region_held3 (fun w' => w'.cell? ⟨w6.heap.size, 0, none⟩ = some (.int .i64 ge) ∧ w'.cell? ⟨w6.heap.size, 1, none⟩ = some (.slice Ax0 gp.length cx0) ∧ w'.cell? ⟨w.heap.size, 0, none⟩ = some (.int .i64 ge) ∧ w'.cell? ⟨w.heap.size, 1, none⟩ = some (v)) (first | exact ⟨kx00, kx01, ka00, ka01⟩ | exact ⟨fkx00, fkx01, fka00, fka01⟩ | exact ⟨ekx00, ekx01, eka00, eka01⟩ | go_keep) (first | (go_at_call 10; refine (laws_toEventGraph _ _ _ _ (show Lst Place.cells 4 w10.drew w10.drew.heap.size _ _ from hbz) hn0).mono ?_; rintro e w11 ⟨z0, rfl, hz0, hB11⟩; have fkx00 := cell_keep (w := w10.drew) kx00 hB11; have fkx01 := cell_keep (w := w10.drew) kx01 hB11; have fka00 := cell_keep (w := w10.drew) ka00 hB11; have fka01 := cell_keep (w := w10.drew) ka01 hB11) | (go_at_call 13; refine (laws_eqEventGraph _ _ _ _ _ _ _ (Lst.now (w := w10.drew) hx0.lst hB11) hz0.lst).mono ?_; rintro e w12 ⟨rfl, hB12⟩; have ekx00 := cell_keep fkx00 hB12; have ekx01 := cell_keep fkx01 hB12; have eka00 := cell_keep fka00 hB12; have eka01 := cell_keep fka01 hB12))
      clear fkx00 fkx01 fka00 fka01 ekx00 ekx01 eka00 eka01
      have s11 := Below.size (w := w10.drew) hB11
      have dq11 : w10.drew.heap.size = w10.heap.size := rfl
      have s12 := hB12.size
      have hD : Below w10.heap.size w10 w12 := ((Below.refl _ w10).drew.trans hB11).trans (hB12.mono s11)
      replace ht := ht.trans (hD.mono ht.size)
      replace hp0 := hp0.now hD
      replace hx0 := hx0.now hD
      replace hx1 := hx1.now hD
      replace hg0 := hg0.now hD
      replace ka00 := cell_keep ka00 hD
      replace ka01 := cell_keep ka01 hD
      replace ka20 := cell_keep ka20 hD
      replace ka21 := cell_keep ka21 hD
      replace kx00 := cell_keep kx00 hD
      replace kx01 := cell_keep kx01 hD
      clear hD
      go_wp2_with fail
      refine (laws_toInt64S _ _ _ ((b1.below ht (Nat.le_refl _)).more ht.size) hn1).mono ?_
      rintro e w13 ⟨z1, rfl, hz1, hB13⟩
      obtain ⟨Az1, cz1, rfl⟩ := hz1.shape
      have rz1 := Lib.hid hz1.lt
      have s13 := hB13.size
      replace ht := ht.trans (hB13.mono ht.size)
      replace hp0 := hp0.now hB13
      replace hx0 := hx0.now hB13
      replace hx1 := hx1.now hB13
      replace hg0 := hg0.now hB13
      replace ka00 := cell_keep ka00 hB13
      replace ka01 := cell_keep ka01 hB13
      replace ka20 := cell_keep ka20 hB13
      replace ka21 := cell_keep ka21 hB13
      replace kx00 := cell_keep kx00 hB13
      replace kx01 := cell_keep kx01 hB13
      go_wp2_with fail
      refine (laws_eqInt64S _ _ _ _ _ hx1.lst hz1.lst).mono ?_
      rintro e w14 ⟨rfl, hB14⟩
      have s14 := hB14.size
      replace ht := ht.trans (hB14.mono ht.size)
      replace hp0 := hp0.now hB14
      replace hx0 := hx0.now hB14
      replace hx1 := hx1.now hB14
      replace hg0 := hg0.now hB14
      replace hz1 := hz1.now hB14
      replace ka00 := cell_keep ka00 hB14
      replace ka01 := cell_keep ka01 hB14
      replace ka20 := cell_keep ka20 hB14
      replace ka21 := cell_keep ka21 hB14
      replace kx00 := cell_keep kx00 hB14
      replace kx01 := cell_keep kx01 hB14
      clear hz1 rz1
      go_wp2_with fail
      refine (laws_markEventGraph _ _ _ _ _ _ hx0 hn0 (by omega) (by omega)).mono ?_
      clear hx0
      rintro e w15 ⟨rfl, hx0, hG⟩
      replace hp0 := own_kept hp0 hG (by intro k hk hk'; have q1 := rp0.out k hk; have q2 := rx0.out k hk'; omega)
      replace hx1 := own_kept hx1 hG (by intro k hk hk'; have q1 := rx1.out k hk; have q2 := rx0.out k hk'; omega)
      replace hg0 := own_kept hg0 hG (by intro k hk hk'; have q1 := rg0.out k hk; have q2 := rx0.out k hk'; omega)
      replace ka00 := cell_kept ka00 hG (by intro hk; have q2 := rx0.out _ hk; simp at * <;> omega)
      replace ka01 := cell_kept ka01 hG (by intro hk; have q2 := rx0.out _ hk; simp at * <;> omega)
      replace ka20 := cell_kept ka20 hG (by intro hk; have q2 := rx0.out _ hk; simp at * <;> omega)
      replace ka21 := cell_kept ka21 hG (by intro hk; have q2 := rx0.out _ hk; simp at * <;> omega)
      replace kx00 := cell_kept kx00 hG (by intro hk; have q2 := rx0.out _ hk; simp at * <;> omega)
      replace kx01 := cell_kept kx01 hG (by intro hk; have q2 := rx0.out _ hk; simp at * <;> omega)
      replace ht := ht.grown hG ht.size (by intro k hk; have q2 := rx0.out k hk; omega)
      have s15 := hG.size
      clear hG
      go_wp2_with fail
      refine (laws_markInt64S _ _ _ _ _ hx1 hn1 (by omega) (by omega)).mono ?_
      clear hx1
      rintro e w16 ⟨rfl, hx1, hG⟩
      replace hp0 := own_kept hp0 hG (by intro k hk hk'; have q1 := rp0.out k hk; have q2 := rx1.out k hk'; omega)
      replace hx0 := own_kept hx0 hG (by intro k hk hk'; have q1 := rx0.out k hk; have q2 := rx1.out k hk'; omega)
      replace hg0 := own_kept hg0 hG (by intro k hk hk'; have q1 := rg0.out k hk; have q2 := rx1.out k hk'; omega)
      replace ka00 := cell_kept ka00 hG (by intro hk; have q2 := rx1.out _ hk; simp at * <;> omega)
      replace ka01 := cell_kept ka01 hG (by intro hk; have q2 := rx1.out _ hk; simp at * <;> omega)
      replace ka20 := cell_kept ka20 hG (by intro hk; have q2 := rx1.out _ hk; simp at * <;> omega)
      replace ka21 := cell_kept ka21 hG (by intro hk; have q2 := rx1.out _ hk; simp at * <;> omega)
      replace kx00 := cell_kept kx00 hG (by intro hk; have q2 := rx1.out _ hk; simp at * <;> omega)
      replace kx01 := cell_kept kx01 hG (by intro hk; have q2 := rx1.out _ hk; simp at * <;> omega)
      replace ht := ht.grown hG ht.size (by intro k hk; have q2 := rx1.out k hk; omega)
      have s16 := hG.size
      clear hG
      go_wp2_with fail
      refine (laws_eqInt64S _ _ _ _ _ hg0.lst hp0.lst).mono ?_
      rintro e w17 ⟨rfl, hB17⟩
      have s17 := hB17.size
      replace ht := ht.trans (hB17.mono ht.size)
      replace hp0 := hp0.now hB17
      replace hx0 := hx0.now hB17
      replace hx1 := hx1.now hB17
      replace hg0 := hg0.now hB17
      replace ka00 := cell_keep ka00 hB17
      replace ka01 := cell_keep ka01 hB17
      replace ka20 := cell_keep ka20 hB17
      replace ka21 := cell_keep ka21 hB17
      replace kx00 := cell_keep kx00 hB17
      replace kx01 := cell_keep kx01 hB17
      go_wp2_with fail
      clear hx0 rx0
      clear hx1 rx1
      refine (laws_markInt64S _ _ _ _ _ hg0 hlen0 (by omega) (by omega)).mono ?_
      clear hg0
      rintro e w18 ⟨rfl, hg0, hG⟩
      replace hp0 := own_kept hp0 hG (by intro k hk hk'; have q1 := rp0.out k hk; have q2 := rg0.out k hk'; omega)
      replace ka00 := cell_kept ka00 hG (by intro hk; have q2 := rg0.out _ hk; simp at * <;> omega)
      replace ka01 := cell_kept ka01 hG (by intro hk; have q2 := rg0.out _ hk; simp at * <;> omega)
      replace ka20 := cell_kept ka20 hG (by intro hk; have q2 := rg0.out _ hk; simp at * <;> omega)
      replace ka21 := cell_kept ka21 hG (by intro hk; have q2 := rg0.out _ hk; simp at * <;> omega)
      replace kx00 := cell_kept kx00 hG (by intro hk; have q2 := rg0.out _ hk; simp at * <;> omega)
      replace kx01 := cell_kept kx01 hG (by intro hk; have q2 := rg0.out _ hk; simp at * <;> omega)
      replace ht := ht.grown hG ht.size (by intro k hk; have q2 := rg0.out k hk; omega)
      have s18 := hG.size
      clear hG
      go_wp2_with fail
      refine (laws_heldInt64S _ _ _ _ _ hg0.lst hlen0 (by omega) (by omega)).mono ?_
      rintro e w' ⟨rfl, rfl⟩
      go_wp2_with fail
      have hbz0 := ((b0.below ht (Nat.le_refl _)).more ht.size)
      have hbz1 := ((b1.below ht (Nat.le_refl _)).more ht.size)
      go_region_held3 (fun w' => w'.cell? ⟨w.heap.size, 0, none⟩ = some (.int .i64 ge) ∧ w'.cell? ⟨w.heap.size, 1, none⟩ = some (v) ∧ w'.cell? ⟨w.heap.size + 1, 0, none⟩ = some (.int .i64 a) ∧ w'.cell? ⟨w.heap.size + 1, 1, none⟩ = some (.int .i64 b)) (first | exact ⟨ka00, ka01, ka20, ka21⟩ | exact ⟨ka00_1, ka01_1, ka20_1, ka21_1⟩ | exact ⟨ka00_2, ka01_2, ka20_2, ka21_2⟩ | exact ⟨ka00_3, ka01_3, ka20_3, ka21_3⟩ | exact ⟨ka00_4, ka01_4, ka20_4, ka21_4⟩ | go_keep) (first | (go_at_call 10; refine (laws_toEventGraph v ge gp _ (show Lst Place.cells 4 w18.drew w18.drew.heap.size _ _ from hbz0) hn0).mono ?_; rintro e w19 ⟨t0, rfl, ht0, hB19⟩; obtain ⟨At0, ct0, rfl⟩ := ht0.shape; have rt0 := Lib.hid ht0.lt; have ka00_1 := cell_keep (w := w18.drew) ka00 hB19; have ka01_1 := cell_keep (w := w18.drew) ka01 hB19; have ka20_1 := cell_keep (w := w18.drew) ka20 hB19; have ka21_1 := cell_keep (w := w18.drew) ka21 hB19; replace hbz0 := Lst.now (w := w18.drew) hbz0 hB19; replace hbz1 := Lst.now (w := w18.drew) hbz1 hB19) | (go_at_call 15; refine (laws_toInt64S _ l  _ hbz1 hn1).mono ?_; rintro e w20 ⟨t1, rfl, ht1, hB20⟩; obtain ⟨At1, ct1, rfl⟩ := ht1.shape; have rt1 := Lib.hid ht1.lt; have ka00_2 := cell_keep ka00_1 hB20; have ka01_2 := cell_keep ka01_1 hB20; have ka20_2 := cell_keep ka20_1 hB20; have ka21_2 := cell_keep ka21_1 hB20; replace hbz0 := Lst.now (w := w19) hbz0 hB20; replace hbz1 := Lst.now (w := w19) hbz1 hB20; replace ht0 := ht0.now hB20) | (go_at_call 11; refine (laws_toRatio a b _).mono ?_; rintro e w21 ⟨rfl, hB21⟩; have ka00_3 := cell_keep ka00_2 hB21; have ka01_3 := cell_keep ka01_2 hB21; have ka20_3 := cell_keep ka20_2 hB21; have ka21_3 := cell_keep ka21_2 hB21; replace hbz0 := Lst.now (w := w20) hbz0 hB21; replace hbz1 := Lst.now (w := w20) hbz1 hB21; replace ht0 := ht0.now hB21; replace ht1 := ht1.now hB21) | (go_at_call 16; refine (impl_LeastRooms _ _ _ _ _ _ _ _ ht0.lst ht1.lst ).mono ?_; rintro e w22 ⟨k0, rfl, hk0, hB22⟩; obtain ⟨Ak0, ck0, rfl⟩ := hk0.shape; have rk0 := Lib.hid hk0.lt; have ka00_4 := cell_keep ka00_3 hB22; have ka01_4 := cell_keep ka01_3 hB22; have ka20_4 := cell_keep ka20_3 hB22; have ka21_4 := cell_keep ka21_3 hB22))
      clear ka00_1 ka01_1 ka20_1 ka21_1 ka00_2 ka01_2 ka20_2 ka21_2 ka00_3 ka01_3 ka20_3 ka21_3 ka00_4 ka01_4 ka20_4 ka21_4
      clear hbz0
      clear hbz1
      have s19 := Below.size (w := w18.drew) hB19
      have s20 := Below.size (w := w19) hB20
      have s21 := Below.size (w := w20) hB21
      have s22 := Below.size (w := w21) hB22
      have dq19 : w18.drew.heap.size = w18.heap.size := rfl
      have hD : Below w18.heap.size w18 w22 := (((((Below.refl _ w18).drew.trans (Below.mono (w := w18.drew) hB19 (show w18.heap.size ≤ _ from by first | exact Nat.le_refl _ | (simp at *; omega) | omega))).trans (Below.mono (w := w19) hB20 (show w18.heap.size ≤ _ from by first | exact Nat.le_refl _ | (simp at *; omega) | omega))).trans (Below.mono (w := w20) hB21 (show w18.heap.size ≤ _ from by first | exact Nat.le_refl _ | (simp at *; omega) | omega))).trans (Below.mono (w := w21) hB22 (show w18.heap.size ≤ _ from by first | exact Nat.le_refl _ | (simp at *; omega) | omega)))
      replace ht := ht.trans (hD.mono ht.size)
      replace hp0 := hp0.now hD
      replace hg0 := hg0.now hD
      replace ka00 := cell_keep ka00 hD
      replace ka01 := cell_keep ka01 hD
      replace ka20 := cell_keep ka20 hD
      replace ka21 := cell_keep ka21 hD
      replace kx00 := cell_keep kx00 hD
      replace kx01 := cell_keep kx01 hD
      clear hD
      clear ht0 rt0
      clear ht1 rt1
      go_wp2_with fail
      refine (laws_eqInt64S _ _ _ _ _ hk0.lst hp0.lst).mono ?_
      rintro e w23 ⟨rfl, hB23⟩
      have s23 := hB23.size
      replace ht := ht.trans (hB23.mono ht.size)
      replace hp0 := hp0.now hB23
      replace hg0 := hg0.now hB23
      replace hk0 := hk0.now hB23
      replace ka00 := cell_keep ka00 hB23
      replace ka01 := cell_keep ka01 hB23
      replace ka20 := cell_keep ka20 hB23
      replace ka21 := cell_keep ka21 hB23
      replace kx00 := cell_keep kx00 hB23
      replace kx01 := cell_keep kx01 hB23
      go_wp2_with fail
      refine (laws_heldInt64S _ _ _ _ _ hg0.lst hlen0 (by omega) (by omega)).mono ?_
      rintro e w' ⟨rfl, rfl⟩
      go_wp2_with fail
      go_ret
      exact ⟨rfl, (by repeat (first | exact Below.refl _ _ | refine Below.drew ?_ | refine Below.alloc ?_ (by first | omega | (simp; done) | (simp; omega) | (have q0 := ht.size; simp at q0; omega) | (have q0 := ht.size; simp at q0 ⊢; omega)) _ | refine Below.setCell ?_ (by first | omega | (simp; done) | (simp; omega) | (have q0 := ht.size; simp at q0; omega) | (have q0 := ht.size; simp at q0 ⊢; omega)) _ | refine Below.trans ?_ (Below.mono ht (by first | omega | (simp; done) | (simp; omega) | (have q0 := ht.size; simp at q0; omega) | (have q0 := ht.size; simp at q0 ⊢; omega)))))⟩

theorem LeastRooms_own : ownKnob Try.prog.godebug = none := by kernel_rfl
theorem LeastRooms_laidOut : laidOutB Try.prog = true := by kernel_rfl
set_option maxRecDepth 100000 in
theorem LeastRooms_lifted (os : Os) (started : os.Started) (H : Type) (enc : TypeId × Value → H) :
    ReturnsInHanded {} Try.checked os 4 .any (Rows.fnExactLeastRoomsSpec.pre6 enc Try.prog Try.f4 Rows.fnExactLeastRoomsRow.domain false) (Rows.fnExactLeastRoomsSpec.post enc Try.prog Try.f4 false true false false) := by
  refine returnsInHanded_of_change (C := Try.checked) LeastRooms_own started (by kernel_rfl) Try.func4
    (ChangeSpec.witness6 (enc := enc) (C := Try.checked) false ⟨#[], #[.agg #[.int .i64 0, .slice none 0 0], .slice none 0 0, .agg #[.int .i64 0, .int .i64 0]], []⟩ 8 (by kernel_rfl) (by kernel_rfl) (by kernel_rfl) (by kernel_rfl)) ?_
  intro W base args ds gs before hval0 hW hcnd _
  have hval : ∀ (j : Nat) t v, Try.f4.params[j]? = some t → args[j]? = some v → Value.okWide Try.prog W .any base t v := hval0
  have hW' := hW
  obtain ⟨p, q, hA0, hV, rfl, hfz, hnd⟩ := hW
  have hA : DataW.TrodAll enc Try.prog W 0 (fun _ => true) true Try.f4.params.toList args.toList ds p := hA0
  rw [Try.params4] at hA hval
  obtain ⟨v0, vs0, d0, ds0, p0, q0, hargs, rfl, rfl, h0, r0⟩ := trodAll_cons hA
  obtain ⟨v1, vs1, d1, ds1, p1, q1, rfl, rfl, rfl, h1, r1⟩ := trodAll_cons r0
  obtain ⟨v2, vs2, d2, ds2, p2, q2, rfl, rfl, rfl, h2, r2⟩ := trodAll_cons r1
  obtain ⟨rfl, rfl, rfl⟩ := trodAll_nil r2
  obtain rfl : args = #[v0, v1, v2] := by cases args; simp_all
  obtain ⟨rfl, rfl⟩ := trodVars_none hV
  have k0 := h0
  have lt0 : ∀ x ∈ p0, x.block < W.heap.size := by obtain ⟨m, hm⟩ := k0; exact DataW.trod_lt m _ _ _ hm
  have k1 := h1
  have lt1 : ∀ x ∈ p1, x.block < W.heap.size := by obtain ⟨m, hm⟩ := k1; exact DataW.trod_lt m _ _ _ hm
  have k2 := h2
  have lt2 : ∀ x ∈ p2, x.block < W.heap.size := by obtain ⟨m, hm⟩ := k2; exact DataW.trod_lt m _ _ _ hm
  obtain ⟨e0, s0, y0, u0, fl0, rfl, _, _, hy0, hu0⟩ := Joins.open_agg2 Try.underlying24 (by kernel_rfl) (by kernel_rfl) (hval 0 24 v0 rfl rfl) h0
  obtain ⟨g0, he0, _, w0⟩ := DataW.trod_int Try.underlying2 hy0
  simp only [List.cons.injEq, and_true] at he0
  subst he0
  obtain ⟨len0, z0, hR0⟩ := open_structs Try.underlying22 Try.underlying121 (by kernel_rfl) (by kernel_rfl) (by decide) (by intro j f hj; match j, hj with | 0, hj => (injection hj with hj; subst hj; exact Try.underlying2) | 1, hj => (injection hj with hj; subst hj; exact Try.underlying2) | 2, hj => (injection hj with hj; subst hj; exact Try.underlying2) | 3, hj => (injection hj with hj; subst hj; exact Try.underlying2) | n + 4, hj => simp at hj) (hu0)
  have a0 := rows_lst Place.cells Place.cells_len (fun i => ⟨z0 i 0, z0 i 1, z0 i 2, z0 i 3⟩) (by intro i j hj; match j, hj with | 0, _ => rfl | 1, _ => rfl | 2, _ => rfl | 3, _ => rfl | n + 4, hj => omega) hR0
  have o0 : Hid (∀ x ∈ (List.range len0).map fun i => (⟨z0 i 0, z0 i 1, z0 i 2, z0 i 3⟩ : Place), x.ok) := by
    intro x hx
    obtain ⟨i, hi, rfl⟩ := List.mem_map.1 hx
    have hi := List.mem_range.1 hi
    exact ⟨hR0.2.2 i 0 hi (by decide), hR0.2.2 i 1 hi (by decide), hR0.2.2 i 2 hi (by decide), hR0.2.2 i 3 hi (by decide)⟩
  have o0 : Hid (i64ok g0 ∧ ∀ x ∈ (List.range len0).map fun i => (⟨z0 i 0, z0 i 1, z0 i 2, z0 i 3⟩ : Place), x.ok) := ⟨wf_i64ok w0, o0⟩
  obtain ⟨A1, n1, c1, rfl⟩ := okWide_slice Try.underlying38 (hval 1 38 v1 rfl rfl)
  obtain ⟨fuel1, hf1⟩ := h1
  obtain ⟨l1, a1, o1⟩ := open_i64s Try.underlying38 Try.underlying2 (by kernel_rfl) (show DataW.trod enc Try.prog W 0 (fun _ => true) true fuel1 38 [_] = _ by simpa [Value.cells] using hf1)
  obtain ⟨e2, s2, y2, u2, fl2, rfl, _, _, hy2, hu2⟩ := Joins.open_agg2 Try.underlying26 (by kernel_rfl) (by kernel_rfl) (hval 2 26 v2 rfl rfl) h2
  obtain ⟨g2, ge2, _, gw2⟩ := DataW.trod_int Try.underlying2 hy2
  simp only [List.cons.injEq, and_true] at ge2
  subst ge2
  obtain ⟨i2, ie2, _, iw2⟩ := DataW.trod_int Try.underlying2 hu2
  simp only [List.cons.injEq, and_true] at ie2
  subst ie2
  have o2 : Hid (i64ok g2 ∧ i64ok i2) := ⟨wf_i64ok gw2, wf_i64ok iw2⟩
  clear hA0 hval0
  refine (law_LeastRooms _ _ _ _ _ _ _ W a0 a1 o0 o1 o2).mono fun e W' ⟨he, bel⟩ => ?_
  subst he
  exact ⟨_, rfl, _, _, _, [], _, [], hW', trodAll_mk1 (shut_bool Try.underlying4 _), (trodAll_cons_mk (Below.trod LeastRooms_laidOut (by kernel_rfl) (of_decide_eq_true (by kernel_rfl)) k0 bel lt0) (trodAll_cons_mk (Below.trod LeastRooms_laidOut (by kernel_rfl) (of_decide_eq_true (by kernel_rfl)) k1 bel lt1) (trodAll_cons_mk (Below.trod LeastRooms_laidOut (by kernel_rfl) (of_decide_eq_true (by kernel_rfl)) k2 bel lt2) trodAll_mk0))), rfl, bel.frame _, fun h => by cases h⟩
theorem LeastRooms_over : Rows.fnExactLeastRoomsRow.holds Try.pinned (OpenSpec.ofChange Rows.fnExactLeastRoomsSpec) :=
  OpenClaim.holds_of_wide 4 Try.f4 rfl rfl rfl rfl rfl rfl rfl ⟨rfl, rfl, rfl, rfl, rfl⟩ rfl rfl rfl rfl rfl (by kernel_rfl) Try.func4 (by kernel_rfl)
    (of_decide_eq_true (by kernel_rfl)) (by unfold Func.isWrapper; first | (rw [if_pos (by decide +kernel)]; kernel_rfl) | (rw [if_neg (by decide +kernel)]; exact ⟨rfl, rfl⟩))
    (fun os started H enc _ => LeastRooms_lifted os started H enc)
/-- The given statement. -/
theorem LeastRooms_proved : Rows.FnExactLeastRoomsSaid := LeastRooms_over
end Go.Proofs.Ytbdklhahbeiffaa
