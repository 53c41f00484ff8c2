/-
  FnExactLimitPlaces returns true for every input: the program's LimitPlaces gives what the reference's gives (the limited graph); nothing that was there turns.
  Conditions: none beyond the statement's own.
-/
import Derived.Test.YtobbidlbihnodaaLimitA
import Derived.Test.YtobbidlbihnodaaGLaw
import Derived.Test.YtobbidlbihnodaaOpen
namespace Go.Proofs.Ytobbidlbihnodaa
open Go.RowKit Go.ChangeShapes Go.WideShapes Go.ChangeAt Go.Deep
set_option linter.unusedVariables false
set_option linter.unusedSimpArgs false

set_option maxHeartbeats 4000000 in
set_option maxRecDepth 100000 in
theorem law_LimitPlaces (v : Value) (ge : Int) (gp : List Place) (u : Value) (l : List Int) (t : Value) (r : List Int) (w : World) (a0 : Lst Place.cells 4 w w.heap.size v gp) (a1 : Lst intCell 1 w w.heap.size u l) (a2 : Lst intCell 1 w w.heap.size t r) (o0 : Hid (i64ok ge ∧ ∀ x ∈ gp, x.ok)) (o1 : Hid (∀ n ∈ l, i64ok n)) (o2 : Hid (∀ n ∈ r, i64ok n)) :
    Calls Try.prog 13 #[.agg #[.int .i64 ge, v], u, t] w fun e w' => e = .returned (.bool true) ∧ Below w.heap.size w w' := by
  obtain ⟨A1, c1, rfl⟩ := a1.shape
  have hmax1 := a1.len_le
  obtain ⟨A2, c2, rfl⟩ := a2.shape
  have hmax2 := a2.len_le
  have b0 := (Lst.alloc a0 (.cells #[.int .i64 ge, v] 24))
  have b1 := (Lst.alloc a1 (.cells #[.int .i64 ge, v] 24))
  have b2 := (Lst.alloc a2 (.cells #[.int .i64 ge, v] 24))
  have ht : Below (w.alloc (.cells #[.int .i64 ge, v] 24)).heap.size (w.alloc (.cells #[.int .i64 ge, v] 24)) (w.alloc (.cells #[.int .i64 ge, v] 24)) := Below.refl _ _
  by_cases hp0 : 1048576 < l.length
  · have hpb : decide ((1048576 : Int) < l.length) = true := by simp; omega
    go_enter Try.func13, Try.ntmps13
    go_wp2_with fail
    go_ret
    exact ⟨rfl, (by repeat (first | exact Below.refl _ _ | refine Below.drew ?_ | refine Below.alloc ?_ (by first | omega | (simp; done) | (simp; omega) | (have q0 := ht.size; simp at q0; omega) | (have q0 := ht.size; simp at q0 ⊢; omega)) _ | refine Below.setCell ?_ (by first | omega | (simp; done) | (simp; omega) | (have q0 := ht.size; simp at q0; omega) | (have q0 := ht.size; simp at q0 ⊢; omega)) _ | refine Below.trans ?_ (Below.mono ht (by first | omega | (simp; done) | (simp; omega) | (have q0 := ht.size; simp at q0; omega) | (have q0 := ht.size; simp at q0 ⊢; omega)))))⟩
  · have hpb0 : decide ((1048576 : Int) < l.length) = false := by simp; omega
    have hn1 : l.length ≤ 1048576 := by omega
    by_cases hp1 : 1048576 < r.length
    · have hpb : decide ((1048576 : Int) < r.length) = true := by simp; omega
      go_enter Try.func13, Try.ntmps13
      go_wp2_with fail
      go_ret
      exact ⟨rfl, (by repeat (first | exact Below.refl _ _ | refine Below.drew ?_ | refine Below.alloc ?_ (by first | omega | (simp; done) | (simp; omega) | (have q0 := ht.size; simp at q0; omega) | (have q0 := ht.size; simp at q0 ⊢; omega)) _ | refine Below.setCell ?_ (by first | omega | (simp; done) | (simp; omega) | (have q0 := ht.size; simp at q0; omega) | (have q0 := ht.size; simp at q0 ⊢; omega)) _ | refine Below.trans ?_ (Below.mono ht (by first | omega | (simp; done) | (simp; omega) | (have q0 := ht.size; simp at q0; omega) | (have q0 := ht.size; simp at q0 ⊢; omega)))))⟩
    · have hpb1 : decide ((1048576 : Int) < r.length) = false := by simp; omega
      have hn2 : r.length ≤ 1048576 := by omega
      by_cases hs0 : (1048576 : Int) < gp.length
      · have hz : (if (1048576 : Int) < gp.length then (-1 : Int) else (1048576 : Int) - gp.length) = -1 := if_pos hs0
        go_enter Try.func13, Try.ntmps13
        go_wp2_with fail
        have ka00 : (w.alloc (.cells #[.int .i64 ge, v] 24)).cell? ⟨w.heap.size, 0, none⟩ = some (.int .i64 ge) := by simp
        have ka01 : (w.alloc (.cells #[.int .i64 ge, v] 24)).cell? ⟨w.heap.size, 1, none⟩ = some (v) := by simp
        refine (laws_szEventGraph _ _ _ _ _ ((b0.below ht (Nat.le_refl _)).more ht.size) (by omega) (by omega)).mono ?_
        rintro e w1 ⟨rfl, hB1⟩
        have s1 := hB1.size
        replace ht := ht.trans (hB1.mono ht.size)
        replace ka00 := cell_keep ka00 hB1
        replace ka01 := cell_keep ka01 hB1
        go_wp2_with fail
        go_ret
        exact ⟨rfl, (by repeat (first | exact Below.refl _ _ | refine Below.drew ?_ | refine Below.alloc ?_ (by first | omega | (simp; done) | (simp; omega) | (have q0 := ht.size; simp at q0; omega) | (have q0 := ht.size; simp at q0 ⊢; omega)) _ | refine Below.setCell ?_ (by first | omega | (simp; done) | (simp; omega) | (have q0 := ht.size; simp at q0; omega) | (have q0 := ht.size; simp at q0 ⊢; omega)) _ | refine Below.trans ?_ (Below.mono ht (by first | omega | (simp; done) | (simp; omega) | (have q0 := ht.size; simp at q0; omega) | (have q0 := ht.size; simp at q0 ⊢; omega)))))⟩
      · have hz0 : (if (1048576 : Int) < gp.length then (-1 : Int) else (1048576 : Int) - gp.length) = (1048576 : Int) - gp.length := if_neg hs0
        have hn0 : gp.length ≤ 1048576 := by omega
        have hlen0 : (limF ge gp l r).2.1.length ≤ 1048576 := limF_len ge gp l r
        go_enter Try.func13, Try.ntmps13
        go_wp2_with fail
        have ka00 : (w.alloc (.cells #[.int .i64 ge, v] 24)).cell? ⟨w.heap.size, 0, none⟩ = some (.int .i64 ge) := by simp
        have ka01 : (w.alloc (.cells #[.int .i64 ge, v] 24)).cell? ⟨w.heap.size, 1, none⟩ = some (v) := by simp
        refine (laws_szEventGraph _ _ _ _ _ ((b0.below ht (Nat.le_refl _)).more ht.size) (by omega) (by omega)).mono ?_
        rintro e w1 ⟨rfl, hB1⟩
        have s1 := hB1.size
        replace ht := ht.trans (hB1.mono ht.size)
        replace ka00 := cell_keep ka00 hB1
        replace ka01 := cell_keep ka01 hB1
        go_wp2_with fail
        refine (laws_toEventGraph _ _ _ _ ((b0.below ht (Nat.le_refl _)).more ht.size) hn0).mono ?_
        rintro e w2 ⟨y0, rfl, hy0, hB2⟩
        obtain ⟨Ay0, cy0, rfl⟩ := hy0.shape
        have ry0 := Lib.hid hy0.lt
        have s2 := hB2.size
        replace ht := ht.trans (hB2.mono ht.size)
        replace ka00 := cell_keep ka00 hB2
        replace ka01 := cell_keep ka01 hB2
        go_wp2_with fail
        refine (laws_toInt64S _ _ _ ((b1.below ht (Nat.le_refl _)).more ht.size) hn1).mono ?_
        rintro e w3 ⟨y1, rfl, hy1, hB3⟩
        obtain ⟨Ay1, cy1, rfl⟩ := hy1.shape
        have ry1 := Lib.hid hy1.lt
        have s3 := hB3.size
        replace ht := ht.trans (hB3.mono ht.size)
        replace hy0 := hy0.now hB3
        replace ka00 := cell_keep ka00 hB3
        replace ka01 := cell_keep ka01 hB3
        go_wp2_with fail
        refine (laws_toInt64S _ _ _ ((b2.below ht (Nat.le_refl _)).more ht.size) hn2).mono ?_
        rintro e w4 ⟨y2, rfl, hy2, hB4⟩
        obtain ⟨Ay2, cy2, rfl⟩ := hy2.shape
        have ry2 := Lib.hid hy2.lt
        have s4 := hB4.size
        replace ht := ht.trans (hB4.mono ht.size)
        replace hy0 := hy0.now hB4
        replace hy1 := hy1.now hB4
        replace ka00 := cell_keep ka00 hB4
        replace ka01 := cell_keep ka01 hB4
        go_wp2_with fail
        refine (spec_LimitPlaces _ _ _ _ _ _ _ _ hy0.lst hy1.lst hy2.lst ).mono ?_
        rintro e w5 ⟨p0, rfl, hp0, hB5⟩
        obtain ⟨Ap0, cp0, rfl⟩ := hp0.shape
        have rp0 := Lib.hid hp0.lt
        have s5 := hB5.size
        replace ht := ht.trans (hB5.mono ht.size)
        replace hy0 := hy0.now hB5
        replace hy1 := hy1.now hB5
        replace hy2 := hy2.now hB5
        replace ka00 := cell_keep ka00 hB5
        replace ka01 := cell_keep ka01 hB5
        have hA1 : Below w5.heap.size w5 (w5.alloc (.cells #[.int .i64 (limF ge gp l r).1, .slice Ap0 ((limF ge gp l r).2.1).length cp0] 28)) := (Below.refl _ _).alloc (Nat.le_refl _) _
        have sA1 : w5.heap.size < (w5.alloc (.cells #[.int .i64 (limF ge gp l r).1, .slice Ap0 ((limF ge gp l r).2.1).length cp0] 28)).heap.size := by simp
        replace ht := ht.trans (hA1.mono ht.size)
        replace hy0 := hy0.now hA1
        replace hy1 := hy1.now hA1
        replace hy2 := hy2.now hA1
        replace hp0 := hp0.now hA1
        replace ka00 := cell_keep ka00 hA1
        replace ka01 := cell_keep ka01 hA1
        have kp00 : (w5.alloc (.cells #[.int .i64 (limF ge gp l r).1, .slice Ap0 ((limF ge gp l r).2.1).length cp0] 28)).cell? ⟨w5.heap.size, 0, none⟩ = some (.int .i64 (limF ge gp l r).1) := by simp
        have kp01 : (w5.alloc (.cells #[.int .i64 (limF ge gp l r).1, .slice Ap0 ((limF ge gp l r).2.1).length cp0] 28)).cell? ⟨w5.heap.size, 1, none⟩ = some (.slice Ap0 ((limF ge gp l r).2.1).length cp0) := by simp
        clear hA1
        go_wp2_with fail
        clear hy0 ry0
        clear hy1 ry1
        clear hy2 ry2
        refine (laws_toEventGraph _ _ _ _ ((b0.below ht (Nat.le_refl _)).more ht.size) hn0).mono ?_
        rintro e w6 ⟨x0, rfl, hx0, hB6⟩
        obtain ⟨Ax0, cx0, rfl⟩ := hx0.shape
        have rx0 := Lib.hid hx0.lt
        have s6 := hB6.size
        replace ht := ht.trans (hB6.mono ht.size)
        replace hp0 := hp0.now hB6
        replace ka00 := cell_keep ka00 hB6
        replace ka01 := cell_keep ka01 hB6
        replace kp00 := cell_keep kp00 hB6
        replace kp01 := cell_keep kp01 hB6
        have hA2 : Below w6.heap.size w6 (w6.alloc (.cells #[.int .i64 ge, .slice Ax0 gp.length cx0] 28)) := (Below.refl _ _).alloc (Nat.le_refl _) _
        have sA2 : w6.heap.size < (w6.alloc (.cells #[.int .i64 ge, .slice Ax0 gp.length cx0] 28)).heap.size := by simp
        replace ht := ht.trans (hA2.mono ht.size)
        replace hp0 := hp0.now hA2
        replace hx0 := hx0.now hA2
        replace ka00 := cell_keep ka00 hA2
        replace ka01 := cell_keep ka01 hA2
        replace kp00 := cell_keep kp00 hA2
        replace kp01 := cell_keep kp01 hA2
        have kx00 : (w6.alloc (.cells #[.int .i64 ge, .slice Ax0 gp.length cx0] 28)).cell? ⟨w6.heap.size, 0, none⟩ = some (.int .i64 ge) := by simp
        have kx01 : (w6.alloc (.cells #[.int .i64 ge, .slice Ax0 gp.length cx0] 28)).cell? ⟨w6.heap.size, 1, none⟩ = some (.slice Ax0 gp.length cx0) := by simp
        clear hA2
        go_wp2_with fail
        refine (laws_toInt64S _ _ _ ((b1.below ht (Nat.le_refl _)).more ht.size) hn1).mono ?_
        rintro e w7 ⟨x1, rfl, hx1, hB7⟩
        obtain ⟨Ax1, cx1, rfl⟩ := hx1.shape
        have rx1 := Lib.hid hx1.lt
        have s7 := hB7.size
        replace ht := ht.trans (hB7.mono ht.size)
        replace hp0 := hp0.now hB7
        replace hx0 := hx0.now hB7
        replace ka00 := cell_keep ka00 hB7
        replace ka01 := cell_keep ka01 hB7
        replace kp00 := cell_keep kp00 hB7
        replace kp01 := cell_keep kp01 hB7
        replace kx00 := cell_keep kx00 hB7
        replace kx01 := cell_keep kx01 hB7
        go_wp2_with fail
        refine (laws_toInt64S _ _ _ ((b2.below ht (Nat.le_refl _)).more ht.size) hn2).mono ?_
        rintro e w8 ⟨x2, rfl, hx2, hB8⟩
        obtain ⟨Ax2, cx2, rfl⟩ := hx2.shape
        have rx2 := Lib.hid hx2.lt
        have s8 := hB8.size
        replace ht := ht.trans (hB8.mono ht.size)
        replace hp0 := hp0.now hB8
        replace hx0 := hx0.now hB8
        replace hx1 := hx1.now hB8
        replace ka00 := cell_keep ka00 hB8
        replace ka01 := cell_keep ka01 hB8
        replace kp00 := cell_keep kp00 hB8
        replace kp01 := cell_keep kp01 hB8
        replace kx00 := cell_keep kx00 hB8
        replace kx01 := cell_keep kx01 hB8
        go_wp2_with fail
        refine (impl_LimitPlaces _ _ _ _ _ _ _ _ hx0.lst hx1.lst hx2.lst ).mono ?_
        rintro e w9 ⟨g0, rfl, hg0, hB9⟩
        obtain ⟨Ag0, cg0, rfl⟩ := hg0.shape
        have rg0 := Lib.hid hg0.lt
        have s9 := hB9.size
        replace ht := ht.trans (hB9.mono ht.size)
        replace hp0 := hp0.now hB9
        replace hx0 := hx0.now hB9
        replace hx1 := hx1.now hB9
        replace hx2 := hx2.now hB9
        replace ka00 := cell_keep ka00 hB9
        replace ka01 := cell_keep ka01 hB9
        replace kp00 := cell_keep kp00 hB9
        replace kp01 := cell_keep kp01 hB9
        replace kx00 := cell_keep kx00 hB9
        replace kx01 := cell_keep kx01 hB9
        have hA3 : Below w9.heap.size w9 (w9.alloc (.cells #[.int .i64 (limF ge gp l r).1, .slice Ag0 ((limF ge gp l r).2.1).length cg0] 28)) := (Below.refl _ _).alloc (Nat.le_refl _) _
        have sA3 : w9.heap.size < (w9.alloc (.cells #[.int .i64 (limF ge gp l r).1, .slice Ag0 ((limF ge gp l r).2.1).length cg0] 28)).heap.size := by simp
        replace ht := ht.trans (hA3.mono ht.size)
        replace hp0 := hp0.now hA3
        replace hx0 := hx0.now hA3
        replace hx1 := hx1.now hA3
        replace hx2 := hx2.now hA3
        replace hg0 := hg0.now hA3
        replace ka00 := cell_keep ka00 hA3
        replace ka01 := cell_keep ka01 hA3
        replace kp00 := cell_keep kp00 hA3
        replace kp01 := cell_keep kp01 hA3
        replace kx00 := cell_keep kx00 hA3
        replace kx01 := cell_keep kx01 hA3
        have kg00 : (w9.alloc (.cells #[.int .i64 (limF ge gp l r).1, .slice Ag0 ((limF ge gp l r).2.1).length cg0] 28)).cell? ⟨w9.heap.size, 0, none⟩ = some (.int .i64 (limF ge gp l r).1) := by simp
        have kg01 : (w9.alloc (.cells #[.int .i64 (limF ge gp l r).1, .slice Ag0 ((limF ge gp l r).2.1).length cg0] 28)).cell? ⟨w9.heap.size, 1, none⟩ = some (.slice Ag0 ((limF ge gp l r).2.1).length cg0) := by simp
        clear hA3
        go_wp2_with fail
        refine (laws_eqEventGraph _ _ _ _ _ _ _ hg0.lst hp0.lst).mono ?_
        rintro e w10 ⟨rfl, hB10⟩
        have s10 := hB10.size
        replace ht := ht.trans (hB10.mono ht.size)
        replace hp0 := hp0.now hB10
        replace hx0 := hx0.now hB10
        replace hx1 := hx1.now hB10
        replace hx2 := hx2.now hB10
        replace hg0 := hg0.now hB10
        replace ka00 := cell_keep ka00 hB10
        replace ka01 := cell_keep ka01 hB10
        replace kp00 := cell_keep kp00 hB10
        replace kp01 := cell_keep kp01 hB10
        replace kx00 := cell_keep kx00 hB10
        replace kx01 := cell_keep kx01 hB10
        replace kg00 := cell_keep kg00 hB10
        replace kg01 := cell_keep kg01 hB10
        go_wp2_with fail
        have hbz := ((b0.below ht (Nat.le_refl _)).more ht.size)
        go_region_held3 (fun w' => w'.cell? ⟨w6.heap.size, 0, none⟩ = some (.int .i64 ge) ∧ w'.cell? ⟨w6.heap.size, 1, none⟩ = some (.slice Ax0 gp.length cx0) ∧ w'.cell? ⟨w.heap.size, 0, none⟩ = some (.int .i64 ge) ∧ w'.cell? ⟨w.heap.size, 1, none⟩ = some (v)) (first | exact ⟨kx00, kx01, ka00, ka01⟩ | exact ⟨fkx00, fkx01, fka00, fka01⟩ | exact ⟨ekx00, ekx01, eka00, eka01⟩ | go_keep) (first | (go_at_call 17; refine (laws_toEventGraph _ _ _ _ (show Lst Place.cells 4 w10.drew w10.drew.heap.size _ _ from hbz) hn0).mono ?_; rintro e w11 ⟨z0, rfl, hz0, hB11⟩; have fkx00 := cell_keep (w := w10.drew) kx00 hB11; have fkx01 := cell_keep (w := w10.drew) kx01 hB11; have fka00 := cell_keep (w := w10.drew) ka00 hB11; have fka01 := cell_keep (w := w10.drew) ka01 hB11) | (go_at_call 19; refine (laws_eqEventGraph _ _ _ _ _ _ _ (Lst.now (w := w10.drew) hx0.lst hB11) hz0.lst).mono ?_; rintro e w12 ⟨rfl, hB12⟩; have ekx00 := cell_keep fkx00 hB12; have ekx01 := cell_keep fkx01 hB12; have eka00 := cell_keep fka00 hB12; have eka01 := cell_keep fka01 hB12))
        clear fkx00 fkx01 fka00 fka01 ekx00 ekx01 eka00 eka01
        have s11 := Below.size (w := w10.drew) hB11
        have s12 := hB12.size
        have hD : Below w10.heap.size w10 w12 := ((Below.refl _ w10).drew.trans hB11).trans (hB12.mono s11)
        replace ht := ht.trans (hD.mono ht.size)
        replace hp0 := hp0.now hD
        replace hx0 := hx0.now hD
        replace hx1 := hx1.now hD
        replace hx2 := hx2.now hD
        replace hg0 := hg0.now hD
        replace ka00 := cell_keep ka00 hD
        replace ka01 := cell_keep ka01 hD
        replace kp00 := cell_keep kp00 hD
        replace kp01 := cell_keep kp01 hD
        replace kx00 := cell_keep kx00 hD
        replace kx01 := cell_keep kx01 hD
        replace kg00 := cell_keep kg00 hD
        replace kg01 := cell_keep kg01 hD
        clear hD
        go_wp2_with fail
        refine (laws_toInt64S _ _ _ ((b1.below ht (Nat.le_refl _)).more ht.size) hn1).mono ?_
        rintro e w13 ⟨z1, rfl, hz1, hB13⟩
        obtain ⟨Az1, cz1, rfl⟩ := hz1.shape
        have rz1 := Lib.hid hz1.lt
        have s13 := hB13.size
        replace ht := ht.trans (hB13.mono ht.size)
        replace hp0 := hp0.now hB13
        replace hx0 := hx0.now hB13
        replace hx1 := hx1.now hB13
        replace hx2 := hx2.now hB13
        replace hg0 := hg0.now hB13
        replace ka00 := cell_keep ka00 hB13
        replace ka01 := cell_keep ka01 hB13
        replace kp00 := cell_keep kp00 hB13
        replace kp01 := cell_keep kp01 hB13
        replace kx00 := cell_keep kx00 hB13
        replace kx01 := cell_keep kx01 hB13
        replace kg00 := cell_keep kg00 hB13
        replace kg01 := cell_keep kg01 hB13
        go_wp2_with fail
        refine (laws_eqInt64S _ _ _ _ _ hx1.lst hz1.lst).mono ?_
        rintro e w14 ⟨rfl, hB14⟩
        have s14 := hB14.size
        replace ht := ht.trans (hB14.mono ht.size)
        replace hp0 := hp0.now hB14
        replace hx0 := hx0.now hB14
        replace hx1 := hx1.now hB14
        replace hx2 := hx2.now hB14
        replace hg0 := hg0.now hB14
        replace hz1 := hz1.now hB14
        replace ka00 := cell_keep ka00 hB14
        replace ka01 := cell_keep ka01 hB14
        replace kp00 := cell_keep kp00 hB14
        replace kp01 := cell_keep kp01 hB14
        replace kx00 := cell_keep kx00 hB14
        replace kx01 := cell_keep kx01 hB14
        replace kg00 := cell_keep kg00 hB14
        replace kg01 := cell_keep kg01 hB14
        clear hz1 rz1
        go_wp2_with fail
        refine (laws_toInt64S _ _ _ ((b2.below ht (Nat.le_refl _)).more ht.size) hn2).mono ?_
        rintro e w15 ⟨z2, rfl, hz2, hB15⟩
        obtain ⟨Az2, cz2, rfl⟩ := hz2.shape
        have rz2 := Lib.hid hz2.lt
        have s15 := hB15.size
        replace ht := ht.trans (hB15.mono ht.size)
        replace hp0 := hp0.now hB15
        replace hx0 := hx0.now hB15
        replace hx1 := hx1.now hB15
        replace hx2 := hx2.now hB15
        replace hg0 := hg0.now hB15
        replace ka00 := cell_keep ka00 hB15
        replace ka01 := cell_keep ka01 hB15
        replace kp00 := cell_keep kp00 hB15
        replace kp01 := cell_keep kp01 hB15
        replace kx00 := cell_keep kx00 hB15
        replace kx01 := cell_keep kx01 hB15
        replace kg00 := cell_keep kg00 hB15
        replace kg01 := cell_keep kg01 hB15
        go_wp2_with fail
        refine (laws_eqInt64S _ _ _ _ _ hx2.lst hz2.lst).mono ?_
        rintro e w16 ⟨rfl, hB16⟩
        have s16 := hB16.size
        replace ht := ht.trans (hB16.mono ht.size)
        replace hp0 := hp0.now hB16
        replace hx0 := hx0.now hB16
        replace hx1 := hx1.now hB16
        replace hx2 := hx2.now hB16
        replace hg0 := hg0.now hB16
        replace hz2 := hz2.now hB16
        replace ka00 := cell_keep ka00 hB16
        replace ka01 := cell_keep ka01 hB16
        replace kp00 := cell_keep kp00 hB16
        replace kp01 := cell_keep kp01 hB16
        replace kx00 := cell_keep kx00 hB16
        replace kx01 := cell_keep kx01 hB16
        replace kg00 := cell_keep kg00 hB16
        replace kg01 := cell_keep kg01 hB16
        clear hz2 rz2
        go_wp2_with fail
        refine (laws_markEventGraph _ _ _ _ _ _ hx0 hn0 (by omega) (by omega)).mono ?_
        clear hx0
        rintro e w17 ⟨rfl, hx0, hG⟩
        replace hp0 := own_kept hp0 hG (by intro k hk hk'; have q1 := rp0.out k hk; have q2 := rx0.out k hk'; omega)
        replace hx1 := own_kept hx1 hG (by intro k hk hk'; have q1 := rx1.out k hk; have q2 := rx0.out k hk'; omega)
        replace hx2 := own_kept hx2 hG (by intro k hk hk'; have q1 := rx2.out k hk; have q2 := rx0.out k hk'; omega)
        replace hg0 := own_kept hg0 hG (by intro k hk hk'; have q1 := rg0.out k hk; have q2 := rx0.out k hk'; omega)
        replace ka00 := cell_kept ka00 hG (by intro hk; have q2 := rx0.out _ hk; simp at * <;> omega)
        replace ka01 := cell_kept ka01 hG (by intro hk; have q2 := rx0.out _ hk; simp at * <;> omega)
        replace kp00 := cell_kept kp00 hG (by intro hk; have q2 := rx0.out _ hk; simp at * <;> omega)
        replace kp01 := cell_kept kp01 hG (by intro hk; have q2 := rx0.out _ hk; simp at * <;> omega)
        replace kx00 := cell_kept kx00 hG (by intro hk; have q2 := rx0.out _ hk; simp at * <;> omega)
        replace kx01 := cell_kept kx01 hG (by intro hk; have q2 := rx0.out _ hk; simp at * <;> omega)
        replace kg00 := cell_kept kg00 hG (by intro hk; have q2 := rx0.out _ hk; simp at * <;> omega)
        replace kg01 := cell_kept kg01 hG (by intro hk; have q2 := rx0.out _ hk; simp at * <;> omega)
        replace ht := ht.grown hG ht.size (by intro k hk; have q2 := rx0.out k hk; omega)
        have s17 := hG.size
        clear hG
        go_wp2_with fail
        refine (laws_markInt64S _ _ _ _ _ hx1 hn1 (by omega) (by omega)).mono ?_
        clear hx1
        rintro e w18 ⟨rfl, hx1, hG⟩
        replace hp0 := own_kept hp0 hG (by intro k hk hk'; have q1 := rp0.out k hk; have q2 := rx1.out k hk'; omega)
        replace hx0 := own_kept hx0 hG (by intro k hk hk'; have q1 := rx0.out k hk; have q2 := rx1.out k hk'; omega)
        replace hx2 := own_kept hx2 hG (by intro k hk hk'; have q1 := rx2.out k hk; have q2 := rx1.out k hk'; omega)
        replace hg0 := own_kept hg0 hG (by intro k hk hk'; have q1 := rg0.out k hk; have q2 := rx1.out k hk'; omega)
        replace ka00 := cell_kept ka00 hG (by intro hk; have q2 := rx1.out _ hk; simp at * <;> omega)
        replace ka01 := cell_kept ka01 hG (by intro hk; have q2 := rx1.out _ hk; simp at * <;> omega)
        replace kp00 := cell_kept kp00 hG (by intro hk; have q2 := rx1.out _ hk; simp at * <;> omega)
        replace kp01 := cell_kept kp01 hG (by intro hk; have q2 := rx1.out _ hk; simp at * <;> omega)
        replace kx00 := cell_kept kx00 hG (by intro hk; have q2 := rx1.out _ hk; simp at * <;> omega)
        replace kx01 := cell_kept kx01 hG (by intro hk; have q2 := rx1.out _ hk; simp at * <;> omega)
        replace kg00 := cell_kept kg00 hG (by intro hk; have q2 := rx1.out _ hk; simp at * <;> omega)
        replace kg01 := cell_kept kg01 hG (by intro hk; have q2 := rx1.out _ hk; simp at * <;> omega)
        replace ht := ht.grown hG ht.size (by intro k hk; have q2 := rx1.out k hk; omega)
        have s18 := hG.size
        clear hG
        go_wp2_with fail
        refine (laws_markInt64S _ _ _ _ _ hx2 hn2 (by omega) (by omega)).mono ?_
        clear hx2
        rintro e w19 ⟨rfl, hx2, hG⟩
        replace hp0 := own_kept hp0 hG (by intro k hk hk'; have q1 := rp0.out k hk; have q2 := rx2.out k hk'; omega)
        replace hx0 := own_kept hx0 hG (by intro k hk hk'; have q1 := rx0.out k hk; have q2 := rx2.out k hk'; omega)
        replace hx1 := own_kept hx1 hG (by intro k hk hk'; have q1 := rx1.out k hk; have q2 := rx2.out k hk'; omega)
        replace hg0 := own_kept hg0 hG (by intro k hk hk'; have q1 := rg0.out k hk; have q2 := rx2.out k hk'; omega)
        replace ka00 := cell_kept ka00 hG (by intro hk; have q2 := rx2.out _ hk; simp at * <;> omega)
        replace ka01 := cell_kept ka01 hG (by intro hk; have q2 := rx2.out _ hk; simp at * <;> omega)
        replace kp00 := cell_kept kp00 hG (by intro hk; have q2 := rx2.out _ hk; simp at * <;> omega)
        replace kp01 := cell_kept kp01 hG (by intro hk; have q2 := rx2.out _ hk; simp at * <;> omega)
        replace kx00 := cell_kept kx00 hG (by intro hk; have q2 := rx2.out _ hk; simp at * <;> omega)
        replace kx01 := cell_kept kx01 hG (by intro hk; have q2 := rx2.out _ hk; simp at * <;> omega)
        replace kg00 := cell_kept kg00 hG (by intro hk; have q2 := rx2.out _ hk; simp at * <;> omega)
        replace kg01 := cell_kept kg01 hG (by intro hk; have q2 := rx2.out _ hk; simp at * <;> omega)
        replace ht := ht.grown hG ht.size (by intro k hk; have q2 := rx2.out k hk; omega)
        have s19 := hG.size
        clear hG
        go_wp2_with fail
        refine (laws_eqEventGraph _ _ _ _ _ _ _ hg0.lst hp0.lst).mono ?_
        rintro e w20 ⟨rfl, hB20⟩
        have s20 := hB20.size
        replace ht := ht.trans (hB20.mono ht.size)
        replace hp0 := hp0.now hB20
        replace hx0 := hx0.now hB20
        replace hx1 := hx1.now hB20
        replace hx2 := hx2.now hB20
        replace hg0 := hg0.now hB20
        replace ka00 := cell_keep ka00 hB20
        replace ka01 := cell_keep ka01 hB20
        replace kp00 := cell_keep kp00 hB20
        replace kp01 := cell_keep kp01 hB20
        replace kx00 := cell_keep kx00 hB20
        replace kx01 := cell_keep kx01 hB20
        replace kg00 := cell_keep kg00 hB20
        replace kg01 := cell_keep kg01 hB20
        go_wp2_with fail
        clear hx0 rx0
        clear hx1 rx1
        clear hx2 rx2
        refine (laws_markEventGraph _ _ _ _ _ _ hg0 hlen0 (by omega) (by omega)).mono ?_
        clear hg0
        rintro e w21 ⟨rfl, hg0, hG⟩
        replace hp0 := own_kept hp0 hG (by intro k hk hk'; have q1 := rp0.out k hk; have q2 := rg0.out k hk'; omega)
        replace ka00 := cell_kept ka00 hG (by intro hk; have q2 := rg0.out _ hk; simp at * <;> omega)
        replace ka01 := cell_kept ka01 hG (by intro hk; have q2 := rg0.out _ hk; simp at * <;> omega)
        replace kp00 := cell_kept kp00 hG (by intro hk; have q2 := rg0.out _ hk; simp at * <;> omega)
        replace kp01 := cell_kept kp01 hG (by intro hk; have q2 := rg0.out _ hk; simp at * <;> omega)
        replace kx00 := cell_kept kx00 hG (by intro hk; have q2 := rg0.out _ hk; simp at * <;> omega)
        replace kx01 := cell_kept kx01 hG (by intro hk; have q2 := rg0.out _ hk; simp at * <;> omega)
        replace kg00 := cell_kept kg00 hG (by intro hk; have q2 := rg0.out _ hk; simp at * <;> omega)
        replace kg01 := cell_kept kg01 hG (by intro hk; have q2 := rg0.out _ hk; simp at * <;> omega)
        replace ht := ht.grown hG ht.size (by intro k hk; have q2 := rg0.out k hk; omega)
        have s21 := hG.size
        clear hG
        go_wp2_with fail
        refine (laws_heldEventGraph _ _ _ _ _ hg0.lst hlen0 (by omega) (by omega)).mono ?_
        rintro e w22 ⟨rfl, hB22⟩
        have s22 := hB22.size
        replace ht := ht.trans (hB22.mono ht.size)
        replace hp0 := hp0.now hB22
        replace hg0 := hg0.now hB22
        replace ka00 := cell_keep ka00 hB22
        replace ka01 := cell_keep ka01 hB22
        replace kp00 := cell_keep kp00 hB22
        replace kp01 := cell_keep kp01 hB22
        replace kx00 := cell_keep kx00 hB22
        replace kx01 := cell_keep kx01 hB22
        replace kg00 := cell_keep kg00 hB22
        replace kg01 := cell_keep kg01 hB22
        go_wp2_with fail
        refine (laws_toEventGraph _ _ _ _ ((b0.below ht (Nat.le_refl _)).more ht.size) hn0).mono ?_
        rintro e w23 ⟨u0, rfl, hu0, hB23⟩
        obtain ⟨Au0, cu0, rfl⟩ := hu0.shape
        have ru0 := Lib.hid hu0.lt
        have s23 := hB23.size
        replace ht := ht.trans (hB23.mono ht.size)
        replace hp0 := hp0.now hB23
        replace hg0 := hg0.now hB23
        replace ka00 := cell_keep ka00 hB23
        replace ka01 := cell_keep ka01 hB23
        replace kp00 := cell_keep kp00 hB23
        replace kp01 := cell_keep kp01 hB23
        replace kx00 := cell_keep kx00 hB23
        replace kx01 := cell_keep kx01 hB23
        replace kg00 := cell_keep kg00 hB23
        replace kg01 := cell_keep kg01 hB23
        go_wp2_with fail
        refine (laws_toInt64S _ _ _ ((b1.below ht (Nat.le_refl _)).more ht.size) hn1).mono ?_
        rintro e w24 ⟨u1, rfl, hu1, hB24⟩
        obtain ⟨Au1, cu1, rfl⟩ := hu1.shape
        have ru1 := Lib.hid hu1.lt
        have s24 := hB24.size
        replace ht := ht.trans (hB24.mono ht.size)
        replace hp0 := hp0.now hB24
        replace hg0 := hg0.now hB24
        replace hu0 := hu0.now hB24
        replace ka00 := cell_keep ka00 hB24
        replace ka01 := cell_keep ka01 hB24
        replace kp00 := cell_keep kp00 hB24
        replace kp01 := cell_keep kp01 hB24
        replace kx00 := cell_keep kx00 hB24
        replace kx01 := cell_keep kx01 hB24
        replace kg00 := cell_keep kg00 hB24
        replace kg01 := cell_keep kg01 hB24
        go_wp2_with fail
        refine (laws_toInt64S _ _ _ ((b2.below ht (Nat.le_refl _)).more ht.size) hn2).mono ?_
        rintro e w25 ⟨u2, rfl, hu2, hB25⟩
        obtain ⟨Au2, cu2, rfl⟩ := hu2.shape
        have ru2 := Lib.hid hu2.lt
        have s25 := hB25.size
        replace ht := ht.trans (hB25.mono ht.size)
        replace hp0 := hp0.now hB25
        replace hg0 := hg0.now hB25
        replace hu0 := hu0.now hB25
        replace hu1 := hu1.now hB25
        replace ka00 := cell_keep ka00 hB25
        replace ka01 := cell_keep ka01 hB25
        replace kp00 := cell_keep kp00 hB25
        replace kp01 := cell_keep kp01 hB25
        replace kx00 := cell_keep kx00 hB25
        replace kx01 := cell_keep kx01 hB25
        replace kg00 := cell_keep kg00 hB25
        replace kg01 := cell_keep kg01 hB25
        go_wp2_with fail
        refine (impl_LimitPlaces _ _ _ _ _ _ _ _ hu0.lst hu1.lst hu2.lst ).mono ?_
        rintro e w26 ⟨k0, rfl, hk0, hB26⟩
        obtain ⟨Ak0, ck0, rfl⟩ := hk0.shape
        have rk0 := Lib.hid hk0.lt
        have s26 := hB26.size
        replace ht := ht.trans (hB26.mono ht.size)
        replace hp0 := hp0.now hB26
        replace hg0 := hg0.now hB26
        replace hu0 := hu0.now hB26
        replace hu1 := hu1.now hB26
        replace hu2 := hu2.now hB26
        replace ka00 := cell_keep ka00 hB26
        replace ka01 := cell_keep ka01 hB26
        replace kp00 := cell_keep kp00 hB26
        replace kp01 := cell_keep kp01 hB26
        replace kx00 := cell_keep kx00 hB26
        replace kx01 := cell_keep kx01 hB26
        replace kg00 := cell_keep kg00 hB26
        replace kg01 := cell_keep kg01 hB26
        have hA4 : Below w26.heap.size w26 (w26.alloc (.cells #[.int .i64 (limF ge gp l r).1, .slice Ak0 ((limF ge gp l r).2.1).length ck0] 28)) := (Below.refl _ _).alloc (Nat.le_refl _) _
        have sA4 : w26.heap.size < (w26.alloc (.cells #[.int .i64 (limF ge gp l r).1, .slice Ak0 ((limF ge gp l r).2.1).length ck0] 28)).heap.size := by simp
        replace ht := ht.trans (hA4.mono ht.size)
        replace hp0 := hp0.now hA4
        replace hg0 := hg0.now hA4
        replace hu0 := hu0.now hA4
        replace hu1 := hu1.now hA4
        replace hu2 := hu2.now hA4
        replace hk0 := hk0.now hA4
        replace ka00 := cell_keep ka00 hA4
        replace ka01 := cell_keep ka01 hA4
        replace kp00 := cell_keep kp00 hA4
        replace kp01 := cell_keep kp01 hA4
        replace kx00 := cell_keep kx00 hA4
        replace kx01 := cell_keep kx01 hA4
        replace kg00 := cell_keep kg00 hA4
        replace kg01 := cell_keep kg01 hA4
        have kk00 : (w26.alloc (.cells #[.int .i64 (limF ge gp l r).1, .slice Ak0 ((limF ge gp l r).2.1).length ck0] 28)).cell? ⟨w26.heap.size, 0, none⟩ = some (.int .i64 (limF ge gp l r).1) := by simp
        have kk01 : (w26.alloc (.cells #[.int .i64 (limF ge gp l r).1, .slice Ak0 ((limF ge gp l r).2.1).length ck0] 28)).cell? ⟨w26.heap.size, 1, none⟩ = some (.slice Ak0 ((limF ge gp l r).2.1).length ck0) := by simp
        clear hA4
        go_wp2_with fail
        refine (laws_eqEventGraph _ _ _ _ _ _ _ hk0.lst hp0.lst).mono ?_
        rintro e w27 ⟨rfl, hB27⟩
        have s27 := hB27.size
        replace ht := ht.trans (hB27.mono ht.size)
        replace hp0 := hp0.now hB27
        replace hg0 := hg0.now hB27
        replace hu0 := hu0.now hB27
        replace hu1 := hu1.now hB27
        replace hu2 := hu2.now hB27
        replace hk0 := hk0.now hB27
        replace ka00 := cell_keep ka00 hB27
        replace ka01 := cell_keep ka01 hB27
        replace kp00 := cell_keep kp00 hB27
        replace kp01 := cell_keep kp01 hB27
        replace kx00 := cell_keep kx00 hB27
        replace kx01 := cell_keep kx01 hB27
        replace kg00 := cell_keep kg00 hB27
        replace kg01 := cell_keep kg01 hB27
        replace kk00 := cell_keep kk00 hB27
        replace kk01 := cell_keep kk01 hB27
        go_wp2_with fail
        refine (laws_heldEventGraph _ _ _ _ _ hg0.lst hlen0 (by omega) (by omega)).mono ?_
        rintro e w28 ⟨rfl, hB28⟩
        have s28 := hB28.size
        replace ht := ht.trans (hB28.mono ht.size)
        replace hp0 := hp0.now hB28
        replace hg0 := hg0.now hB28
        replace hu0 := hu0.now hB28
        replace hu1 := hu1.now hB28
        replace hu2 := hu2.now hB28
        replace hk0 := hk0.now hB28
        replace ka00 := cell_keep ka00 hB28
        replace ka01 := cell_keep ka01 hB28
        replace kp00 := cell_keep kp00 hB28
        replace kp01 := cell_keep kp01 hB28
        replace kx00 := cell_keep kx00 hB28
        replace kx01 := cell_keep kx01 hB28
        replace kg00 := cell_keep kg00 hB28
        replace kg01 := cell_keep kg01 hB28
        replace kk00 := cell_keep kk00 hB28
        replace kk01 := cell_keep kk01 hB28
        go_wp2_with fail
        go_ret
        exact ⟨rfl, (by repeat (first | exact Below.refl _ _ | refine Below.drew ?_ | refine Below.alloc ?_ (by first | omega | (simp; done) | (simp; omega) | (have q0 := ht.size; simp at q0; omega) | (have q0 := ht.size; simp at q0 ⊢; omega)) _ | refine Below.setCell ?_ (by first | omega | (simp; done) | (simp; omega) | (have q0 := ht.size; simp at q0; omega) | (have q0 := ht.size; simp at q0 ⊢; omega)) _ | refine Below.trans ?_ (Below.mono ht (by first | omega | (simp; done) | (simp; omega) | (have q0 := ht.size; simp at q0; omega) | (have q0 := ht.size; simp at q0 ⊢; omega)))))⟩

theorem LimitPlaces_own : ownKnob Try.prog.godebug = none := by kernel_rfl
theorem LimitPlaces_laidOut : laidOutB Try.prog = true := by kernel_rfl
set_option maxRecDepth 100000 in
theorem LimitPlaces_lifted (os : Os) (started : os.Started) (H : Type) (enc : TypeId × Value → H) :
    ReturnsInHanded {} Try.checked os 13 .any (Rows.fnExactLimitPlacesSpec.pre6 enc Try.prog Try.f13 Rows.fnExactLimitPlacesRow.domain false) (Rows.fnExactLimitPlacesSpec.post enc Try.prog Try.f13 false true false false) := by
  refine returnsInHanded_of_change (C := Try.checked) LimitPlaces_own started (by kernel_rfl) Try.func13
    (ChangeSpec.witness6 (enc := enc) (C := Try.checked) false ⟨#[], #[.agg #[.int .i64 0, .slice none 0 0], .slice none 0 0, .slice none 0 0], []⟩ 8 (by kernel_rfl) (by kernel_rfl) (by kernel_rfl) (by kernel_rfl)) ?_
  intro W base args ds gs before hval0 hW hcnd _
  have hval : ∀ (j : Nat) t v, Try.f13.params[j]? = some t → args[j]? = some v → Value.okWide Try.prog W .any base t v := hval0
  have hW' := hW
  obtain ⟨p, q, hA0, hV, rfl, hfz, hnd⟩ := hW
  have hA : DataW.TrodAll enc Try.prog W 0 (fun _ => true) true Try.f13.params.toList args.toList ds p := hA0
  rw [Try.params13] at hA hval
  obtain ⟨v0, vs0, d0, ds0, p0, q0, hargs, rfl, rfl, h0, r0⟩ := trodAll_cons hA
  obtain ⟨v1, vs1, d1, ds1, p1, q1, rfl, rfl, rfl, h1, r1⟩ := trodAll_cons r0
  obtain ⟨v2, vs2, d2, ds2, p2, q2, rfl, rfl, rfl, h2, r2⟩ := trodAll_cons r1
  obtain ⟨rfl, rfl, rfl⟩ := trodAll_nil r2
  obtain rfl : args = #[v0, v1, v2] := by cases args; simp_all
  obtain ⟨rfl, rfl⟩ := trodVars_none hV
  have k0 := h0
  have lt0 : ∀ x ∈ p0, x.block < W.heap.size := by obtain ⟨m, hm⟩ := k0; exact DataW.trod_lt m _ _ _ hm
  have k1 := h1
  have lt1 : ∀ x ∈ p1, x.block < W.heap.size := by obtain ⟨m, hm⟩ := k1; exact DataW.trod_lt m _ _ _ hm
  have k2 := h2
  have lt2 : ∀ x ∈ p2, x.block < W.heap.size := by obtain ⟨m, hm⟩ := k2; exact DataW.trod_lt m _ _ _ hm
  obtain ⟨e0, s0, y0, u0, fl0, rfl, _, _, hy0, hu0⟩ := Joins.open_agg2 Try.underlying24 (by kernel_rfl) (by kernel_rfl) (hval 0 24 v0 rfl rfl) h0
  obtain ⟨g0, he0, _, w0⟩ := DataW.trod_int Try.underlying2 hy0
  simp only [List.cons.injEq, and_true] at he0
  subst he0
  obtain ⟨len0, z0, hR0⟩ := open_structs Try.underlying22 Try.underlying119 (by kernel_rfl) (by kernel_rfl) (by decide) (by intro j f hj; match j, hj with | 0, hj => (injection hj with hj; subst hj; exact Try.underlying2) | 1, hj => (injection hj with hj; subst hj; exact Try.underlying2) | 2, hj => (injection hj with hj; subst hj; exact Try.underlying2) | 3, hj => (injection hj with hj; subst hj; exact Try.underlying2) | n + 4, hj => simp at hj) (hu0)
  have a0 := rows_lst Place.cells Place.cells_len (fun i => ⟨z0 i 0, z0 i 1, z0 i 2, z0 i 3⟩) (by intro i j hj; match j, hj with | 0, _ => rfl | 1, _ => rfl | 2, _ => rfl | 3, _ => rfl | n + 4, hj => omega) hR0
  have o0 : Hid (∀ x ∈ (List.range len0).map fun i => (⟨z0 i 0, z0 i 1, z0 i 2, z0 i 3⟩ : Place), x.ok) := by
    intro x hx
    obtain ⟨i, hi, rfl⟩ := List.mem_map.1 hx
    have hi := List.mem_range.1 hi
    exact ⟨hR0.2.2 i 0 hi (by decide), hR0.2.2 i 1 hi (by decide), hR0.2.2 i 2 hi (by decide), hR0.2.2 i 3 hi (by decide)⟩
  have o0 : Hid (i64ok g0 ∧ ∀ x ∈ (List.range len0).map fun i => (⟨z0 i 0, z0 i 1, z0 i 2, z0 i 3⟩ : Place), x.ok) := ⟨wf_i64ok w0, o0⟩
  obtain ⟨A1, n1, c1, rfl⟩ := okWide_slice Try.underlying37 (hval 1 37 v1 rfl rfl)
  obtain ⟨fuel1, hf1⟩ := h1
  obtain ⟨l1, a1, o1⟩ := open_i64s Try.underlying37 Try.underlying2 (by kernel_rfl) (show DataW.trod enc Try.prog W 0 (fun _ => true) true fuel1 37 [_] = _ by simpa [Value.cells] using hf1)
  obtain ⟨A2, n2, c2, rfl⟩ := okWide_slice Try.underlying37 (hval 2 37 v2 rfl rfl)
  obtain ⟨fuel2, hf2⟩ := h2
  obtain ⟨l2, a2, o2⟩ := open_i64s Try.underlying37 Try.underlying2 (by kernel_rfl) (show DataW.trod enc Try.prog W 0 (fun _ => true) true fuel2 37 [_] = _ by simpa [Value.cells] using hf2)
  clear hA0 hval0
  refine (law_LimitPlaces _ _ _ _ _ _ _ W a0 a1 a2 o0 o1 o2).mono fun e W' ⟨he, bel⟩ => ?_
  subst he
  exact ⟨_, rfl, _, _, _, [], _, [], hW', trodAll_mk1 (shut_bool Try.underlying4 _), (trodAll_cons_mk (Below.trod LimitPlaces_laidOut (by kernel_rfl) (of_decide_eq_true (by kernel_rfl)) k0 bel lt0) (trodAll_cons_mk (Below.trod LimitPlaces_laidOut (by kernel_rfl) (of_decide_eq_true (by kernel_rfl)) k1 bel lt1) (trodAll_cons_mk (Below.trod LimitPlaces_laidOut (by kernel_rfl) (of_decide_eq_true (by kernel_rfl)) k2 bel lt2) trodAll_mk0))), rfl, bel.frame _, fun h => by cases h⟩
theorem LimitPlaces_over : Rows.fnExactLimitPlacesRow.holds Try.pinned (OpenSpec.ofChange Rows.fnExactLimitPlacesSpec) :=
  OpenClaim.holds_of_wide 13 Try.f13 rfl rfl rfl rfl rfl rfl rfl ⟨rfl, rfl, rfl, rfl, rfl⟩ rfl rfl rfl rfl rfl (by kernel_rfl) Try.func13 (by kernel_rfl)
    (of_decide_eq_true (by kernel_rfl)) (by unfold Func.isWrapper; first | (rw [if_pos (by decide +kernel)]; kernel_rfl) | (rw [if_neg (by decide +kernel)]; exact ⟨rfl, rfl⟩))
    (fun os started H enc _ => LimitPlaces_lifted os started H enc)
/-- The given statement. -/
theorem LimitPlaces_proved : Rows.FnExactLimitPlacesSaid := LimitPlaces_over
end Go.Proofs.Ytobbidlbihnodaa
