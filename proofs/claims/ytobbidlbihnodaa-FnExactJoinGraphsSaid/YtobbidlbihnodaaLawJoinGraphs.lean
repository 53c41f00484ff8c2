/-
  FnExactJoinGraphs returns true for every input: the program's JoinGraphs gives what the reference's gives (the events and places of both); nothing that was there turns.
  Conditions: none beyond the statement's own.
-/
import Derived.Test.YtobbidlbihnodaaJoin
import Derived.Test.YtobbidlbihnodaaGLaw
import Derived.Test.YtobbidlbihnodaaOpen
namespace Go.Proofs.Ytobbidlbihnodaa
open Go.RowKit Go.ChangeShapes Go.WideShapes Go.ChangeAt Go.Deep
set_option linter.unusedVariables false
set_option linter.unusedSimpArgs false

set_option maxHeartbeats 4000000 in
set_option maxRecDepth 100000 in
theorem law_JoinGraphs (v : Value) (ge : Int) (gp : List Place) (u : Value) (he : Int) (hp : List Place) (w : World) (a0 : Lst Place.cells 4 w w.heap.size v gp) (a1 : Lst Place.cells 4 w w.heap.size u hp) (o0 : Hid (i64ok ge ∧ ∀ x ∈ gp, x.ok)) (o1 : Hid (i64ok he ∧ ∀ x ∈ hp, x.ok)) :
    Calls Try.prog 5 #[.agg #[.int .i64 ge, v], .agg #[.int .i64 he, u]] w fun e w' => e = .returned (.bool true) ∧ Below w.heap.size w w' := by
  have b0 := (Lst.alloc (Lst.alloc a0 (.cells #[.int .i64 ge, v] 24)) (.cells #[.int .i64 he, u] 24))
  have b1 := (Lst.alloc (Lst.alloc a1 (.cells #[.int .i64 ge, v] 24)) (.cells #[.int .i64 he, u] 24))
  have ht : Below ((w.alloc (.cells #[.int .i64 ge, v] 24)).alloc (.cells #[.int .i64 he, u] 24)).heap.size ((w.alloc (.cells #[.int .i64 ge, v] 24)).alloc (.cells #[.int .i64 he, u] 24)) ((w.alloc (.cells #[.int .i64 ge, v] 24)).alloc (.cells #[.int .i64 he, u] 24)) := Below.refl _ _
  by_cases hs0 : (1048576 : Int) < gp.length
  · have hz : (if (1048576 : Int) < gp.length then (-1 : Int) else (1048576 : Int) - gp.length) = -1 := if_pos hs0
    go_enter Try.func5, Try.ntmps5
    go_wp2_with fail
    have ka00 : ((w.alloc (.cells #[.int .i64 ge, v] 24)).alloc (.cells #[.int .i64 he, u] 24)).cell? ⟨w.heap.size, 0, none⟩ = some (.int .i64 ge) := by simp
    have ka01 : ((w.alloc (.cells #[.int .i64 ge, v] 24)).alloc (.cells #[.int .i64 he, u] 24)).cell? ⟨w.heap.size, 1, none⟩ = some (v) := by simp
    have ka10 : ((w.alloc (.cells #[.int .i64 ge, v] 24)).alloc (.cells #[.int .i64 he, u] 24)).cell? ⟨w.heap.size + 1, 0, none⟩ = some (.int .i64 he) := by simp
    have ka11 : ((w.alloc (.cells #[.int .i64 ge, v] 24)).alloc (.cells #[.int .i64 he, u] 24)).cell? ⟨w.heap.size + 1, 1, none⟩ = some (u) := by simp
    refine (laws_szEventGraph _ _ _ _ _ ((b0.below ht (Nat.le_refl _)).more ht.size) (by omega) (by omega)).mono ?_
    rintro e w1 ⟨rfl, hB1⟩
    have s1 := hB1.size
    replace ht := ht.trans (hB1.mono ht.size)
    replace ka00 := cell_keep ka00 hB1
    replace ka01 := cell_keep ka01 hB1
    replace ka10 := cell_keep ka10 hB1
    replace ka11 := cell_keep ka11 hB1
    go_wp2_with fail
    go_ret
    exact ⟨rfl, (by repeat (first | exact Below.refl _ _ | refine Below.drew ?_ | refine Below.alloc ?_ (by first | omega | (simp; done) | (simp; omega) | (have q0 := ht.size; simp at q0; omega) | (have q0 := ht.size; simp at q0 ⊢; omega)) _ | refine Below.setCell ?_ (by first | omega | (simp; done) | (simp; omega) | (have q0 := ht.size; simp at q0; omega) | (have q0 := ht.size; simp at q0 ⊢; omega)) _ | refine Below.trans ?_ (Below.mono ht (by first | omega | (simp; done) | (simp; omega) | (have q0 := ht.size; simp at q0; omega) | (have q0 := ht.size; simp at q0 ⊢; omega)))))⟩
  · have hz0 : (if (1048576 : Int) < gp.length then (-1 : Int) else (1048576 : Int) - gp.length) = (1048576 : Int) - gp.length := if_neg hs0
    have hn0 : gp.length ≤ 1048576 := by omega
    by_cases hs1 : (1048576 : Int) - gp.length < hp.length
    · have hz : (if (1048576 : Int) - gp.length < hp.length then (-1 : Int) else (1048576 : Int) - gp.length - hp.length) = -1 := if_pos hs1
      go_enter Try.func5, Try.ntmps5
      go_wp2_with fail
      have ka00 : ((w.alloc (.cells #[.int .i64 ge, v] 24)).alloc (.cells #[.int .i64 he, u] 24)).cell? ⟨w.heap.size, 0, none⟩ = some (.int .i64 ge) := by simp
      have ka01 : ((w.alloc (.cells #[.int .i64 ge, v] 24)).alloc (.cells #[.int .i64 he, u] 24)).cell? ⟨w.heap.size, 1, none⟩ = some (v) := by simp
      have ka10 : ((w.alloc (.cells #[.int .i64 ge, v] 24)).alloc (.cells #[.int .i64 he, u] 24)).cell? ⟨w.heap.size + 1, 0, none⟩ = some (.int .i64 he) := by simp
      have ka11 : ((w.alloc (.cells #[.int .i64 ge, v] 24)).alloc (.cells #[.int .i64 he, u] 24)).cell? ⟨w.heap.size + 1, 1, none⟩ = some (u) := by simp
      refine (laws_szEventGraph _ _ _ _ _ ((b0.below ht (Nat.le_refl _)).more ht.size) (by omega) (by omega)).mono ?_
      rintro e w1 ⟨rfl, hB1⟩
      have s1 := hB1.size
      replace ht := ht.trans (hB1.mono ht.size)
      replace ka00 := cell_keep ka00 hB1
      replace ka01 := cell_keep ka01 hB1
      replace ka10 := cell_keep ka10 hB1
      replace ka11 := cell_keep ka11 hB1
      go_wp2_with fail
      refine (laws_szEventGraph _ _ _ _ _ ((b1.below ht (Nat.le_refl _)).more ht.size) (by omega) (by omega)).mono ?_
      rintro e w2 ⟨rfl, hB2⟩
      have s2 := hB2.size
      replace ht := ht.trans (hB2.mono ht.size)
      replace ka00 := cell_keep ka00 hB2
      replace ka01 := cell_keep ka01 hB2
      replace ka10 := cell_keep ka10 hB2
      replace ka11 := cell_keep ka11 hB2
      go_wp2_with fail
      go_ret
      exact ⟨rfl, (by repeat (first | exact Below.refl _ _ | refine Below.drew ?_ | refine Below.alloc ?_ (by first | omega | (simp; done) | (simp; omega) | (have q0 := ht.size; simp at q0; omega) | (have q0 := ht.size; simp at q0 ⊢; omega)) _ | refine Below.setCell ?_ (by first | omega | (simp; done) | (simp; omega) | (have q0 := ht.size; simp at q0; omega) | (have q0 := ht.size; simp at q0 ⊢; omega)) _ | refine Below.trans ?_ (Below.mono ht (by first | omega | (simp; done) | (simp; omega) | (have q0 := ht.size; simp at q0; omega) | (have q0 := ht.size; simp at q0 ⊢; omega)))))⟩
    · have hz1 : (if (1048576 : Int) - gp.length < hp.length then (-1 : Int) else (1048576 : Int) - gp.length - hp.length) = (1048576 : Int) - gp.length - hp.length := if_neg hs1
      have hn1 : hp.length ≤ 1048576 := by omega
      have hlen0 : (joinF ge gp he hp).2.1.length ≤ 1048576 := Nat.le_trans (joinF_len ge gp he hp) (by omega)
      go_enter Try.func5, Try.ntmps5
      go_wp2_with fail
      have ka00 : ((w.alloc (.cells #[.int .i64 ge, v] 24)).alloc (.cells #[.int .i64 he, u] 24)).cell? ⟨w.heap.size, 0, none⟩ = some (.int .i64 ge) := by simp
      have ka01 : ((w.alloc (.cells #[.int .i64 ge, v] 24)).alloc (.cells #[.int .i64 he, u] 24)).cell? ⟨w.heap.size, 1, none⟩ = some (v) := by simp
      have ka10 : ((w.alloc (.cells #[.int .i64 ge, v] 24)).alloc (.cells #[.int .i64 he, u] 24)).cell? ⟨w.heap.size + 1, 0, none⟩ = some (.int .i64 he) := by simp
      have ka11 : ((w.alloc (.cells #[.int .i64 ge, v] 24)).alloc (.cells #[.int .i64 he, u] 24)).cell? ⟨w.heap.size + 1, 1, none⟩ = some (u) := by simp
      refine (laws_szEventGraph _ _ _ _ _ ((b0.below ht (Nat.le_refl _)).more ht.size) (by omega) (by omega)).mono ?_
      rintro e w1 ⟨rfl, hB1⟩
      have s1 := hB1.size
      replace ht := ht.trans (hB1.mono ht.size)
      replace ka00 := cell_keep ka00 hB1
      replace ka01 := cell_keep ka01 hB1
      replace ka10 := cell_keep ka10 hB1
      replace ka11 := cell_keep ka11 hB1
      go_wp2_with fail
      refine (laws_szEventGraph _ _ _ _ _ ((b1.below ht (Nat.le_refl _)).more ht.size) (by omega) (by omega)).mono ?_
      rintro e w2 ⟨rfl, hB2⟩
      have s2 := hB2.size
      replace ht := ht.trans (hB2.mono ht.size)
      replace ka00 := cell_keep ka00 hB2
      replace ka01 := cell_keep ka01 hB2
      replace ka10 := cell_keep ka10 hB2
      replace ka11 := cell_keep ka11 hB2
      go_wp2_with fail
      refine (laws_toEventGraph _ _ _ _ ((b0.below ht (Nat.le_refl _)).more ht.size) hn0).mono ?_
      rintro e w3 ⟨y0, rfl, hy0, hB3⟩
      obtain ⟨Ay0, cy0, rfl⟩ := hy0.shape
      have ry0 := Lib.hid hy0.lt
      have s3 := hB3.size
      replace ht := ht.trans (hB3.mono ht.size)
      replace ka00 := cell_keep ka00 hB3
      replace ka01 := cell_keep ka01 hB3
      replace ka10 := cell_keep ka10 hB3
      replace ka11 := cell_keep ka11 hB3
      go_wp2_with fail
      refine (laws_toEventGraph _ _ _ _ ((b1.below ht (Nat.le_refl _)).more ht.size) hn1).mono ?_
      rintro e w4 ⟨y1, rfl, hy1, hB4⟩
      obtain ⟨Ay1, cy1, rfl⟩ := hy1.shape
      have ry1 := Lib.hid hy1.lt
      have s4 := hB4.size
      replace ht := ht.trans (hB4.mono ht.size)
      replace hy0 := hy0.now hB4
      replace ka00 := cell_keep ka00 hB4
      replace ka01 := cell_keep ka01 hB4
      replace ka10 := cell_keep ka10 hB4
      replace ka11 := cell_keep ka11 hB4
      go_wp2_with fail
      refine (spec_JoinGraphs _ _ _ _ _ _ _ hy0.lst hy1.lst ).mono ?_
      rintro e w5 ⟨p0, rfl, hp0, hB5⟩
      obtain ⟨Ap0, cp0, rfl⟩ := hp0.shape
      have rp0 := Lib.hid hp0.lt
      have s5 := hB5.size
      replace ht := ht.trans (hB5.mono ht.size)
      replace hy0 := hy0.now hB5
      replace hy1 := hy1.now hB5
      replace ka00 := cell_keep ka00 hB5
      replace ka01 := cell_keep ka01 hB5
      replace ka10 := cell_keep ka10 hB5
      replace ka11 := cell_keep ka11 hB5
      have hA1 : Below w5.heap.size w5 (w5.alloc (.cells #[.int .i64 (joinF ge gp he hp).1, .slice Ap0 ((joinF ge gp he hp).2.1).length cp0] 28)) := (Below.refl _ _).alloc (Nat.le_refl _) _
      have sA1 : w5.heap.size < (w5.alloc (.cells #[.int .i64 (joinF ge gp he hp).1, .slice Ap0 ((joinF ge gp he hp).2.1).length cp0] 28)).heap.size := by simp
      replace ht := ht.trans (hA1.mono ht.size)
      replace hy0 := hy0.now hA1
      replace hy1 := hy1.now hA1
      replace hp0 := hp0.now hA1
      replace ka00 := cell_keep ka00 hA1
      replace ka01 := cell_keep ka01 hA1
      replace ka10 := cell_keep ka10 hA1
      replace ka11 := cell_keep ka11 hA1
      have kp00 : (w5.alloc (.cells #[.int .i64 (joinF ge gp he hp).1, .slice Ap0 ((joinF ge gp he hp).2.1).length cp0] 28)).cell? ⟨w5.heap.size, 0, none⟩ = some (.int .i64 (joinF ge gp he hp).1) := by simp
      have kp01 : (w5.alloc (.cells #[.int .i64 (joinF ge gp he hp).1, .slice Ap0 ((joinF ge gp he hp).2.1).length cp0] 28)).cell? ⟨w5.heap.size, 1, none⟩ = some (.slice Ap0 ((joinF ge gp he hp).2.1).length cp0) := by simp
      clear hA1
      go_wp2_with fail
      clear hy0 ry0
      clear hy1 ry1
      refine (laws_toEventGraph _ _ _ _ ((b0.below ht (Nat.le_refl _)).more ht.size) hn0).mono ?_
      rintro e w6 ⟨x0, rfl, hx0, hB6⟩
      obtain ⟨Ax0, cx0, rfl⟩ := hx0.shape
      have rx0 := Lib.hid hx0.lt
      have s6 := hB6.size
      replace ht := ht.trans (hB6.mono ht.size)
      replace hp0 := hp0.now hB6
      replace ka00 := cell_keep ka00 hB6
      replace ka01 := cell_keep ka01 hB6
      replace ka10 := cell_keep ka10 hB6
      replace ka11 := cell_keep ka11 hB6
      replace kp00 := cell_keep kp00 hB6
      replace kp01 := cell_keep kp01 hB6
      have hA2 : Below w6.heap.size w6 (w6.alloc (.cells #[.int .i64 ge, .slice Ax0 gp.length cx0] 28)) := (Below.refl _ _).alloc (Nat.le_refl _) _
      have sA2 : w6.heap.size < (w6.alloc (.cells #[.int .i64 ge, .slice Ax0 gp.length cx0] 28)).heap.size := by simp
      replace ht := ht.trans (hA2.mono ht.size)
      replace hp0 := hp0.now hA2
      replace hx0 := hx0.now hA2
      replace ka00 := cell_keep ka00 hA2
      replace ka01 := cell_keep ka01 hA2
      replace ka10 := cell_keep ka10 hA2
      replace ka11 := cell_keep ka11 hA2
      replace kp00 := cell_keep kp00 hA2
      replace kp01 := cell_keep kp01 hA2
      have kx00 : (w6.alloc (.cells #[.int .i64 ge, .slice Ax0 gp.length cx0] 28)).cell? ⟨w6.heap.size, 0, none⟩ = some (.int .i64 ge) := by simp
      have kx01 : (w6.alloc (.cells #[.int .i64 ge, .slice Ax0 gp.length cx0] 28)).cell? ⟨w6.heap.size, 1, none⟩ = some (.slice Ax0 gp.length cx0) := by simp
      clear hA2
      go_wp2_with fail
      refine (laws_toEventGraph _ _ _ _ ((b1.below ht (Nat.le_refl _)).more ht.size) hn1).mono ?_
      rintro e w7 ⟨x1, rfl, hx1, hB7⟩
      obtain ⟨Ax1, cx1, rfl⟩ := hx1.shape
      have rx1 := Lib.hid hx1.lt
      have s7 := hB7.size
      replace ht := ht.trans (hB7.mono ht.size)
      replace hp0 := hp0.now hB7
      replace hx0 := hx0.now hB7
      replace ka00 := cell_keep ka00 hB7
      replace ka01 := cell_keep ka01 hB7
      replace ka10 := cell_keep ka10 hB7
      replace ka11 := cell_keep ka11 hB7
      replace kp00 := cell_keep kp00 hB7
      replace kp01 := cell_keep kp01 hB7
      replace kx00 := cell_keep kx00 hB7
      replace kx01 := cell_keep kx01 hB7
      have hA3 : Below w7.heap.size w7 (w7.alloc (.cells #[.int .i64 he, .slice Ax1 hp.length cx1] 28)) := (Below.refl _ _).alloc (Nat.le_refl _) _
      have sA3 : w7.heap.size < (w7.alloc (.cells #[.int .i64 he, .slice Ax1 hp.length cx1] 28)).heap.size := by simp
      replace ht := ht.trans (hA3.mono ht.size)
      replace hp0 := hp0.now hA3
      replace hx0 := hx0.now hA3
      replace hx1 := hx1.now hA3
      replace ka00 := cell_keep ka00 hA3
      replace ka01 := cell_keep ka01 hA3
      replace ka10 := cell_keep ka10 hA3
      replace ka11 := cell_keep ka11 hA3
      replace kp00 := cell_keep kp00 hA3
      replace kp01 := cell_keep kp01 hA3
      replace kx00 := cell_keep kx00 hA3
      replace kx01 := cell_keep kx01 hA3
      have kx10 : (w7.alloc (.cells #[.int .i64 he, .slice Ax1 hp.length cx1] 28)).cell? ⟨w7.heap.size, 0, none⟩ = some (.int .i64 he) := by simp
      have kx11 : (w7.alloc (.cells #[.int .i64 he, .slice Ax1 hp.length cx1] 28)).cell? ⟨w7.heap.size, 1, none⟩ = some (.slice Ax1 hp.length cx1) := by simp
      clear hA3
      go_wp2_with fail
      refine (impl_JoinGraphs _ _ _ _ _ _ _ hx0.lst hx1.lst ).mono ?_
      rintro e w8 ⟨g0, rfl, hg0, hB8⟩
      obtain ⟨Ag0, cg0, rfl⟩ := hg0.shape
      have rg0 := Lib.hid hg0.lt
      have s8 := hB8.size
      replace ht := ht.trans (hB8.mono ht.size)
      replace hp0 := hp0.now hB8
      replace hx0 := hx0.now hB8
      replace hx1 := hx1.now hB8
      replace ka00 := cell_keep ka00 hB8
      replace ka01 := cell_keep ka01 hB8
      replace ka10 := cell_keep ka10 hB8
      replace ka11 := cell_keep ka11 hB8
      replace kp00 := cell_keep kp00 hB8
      replace kp01 := cell_keep kp01 hB8
      replace kx00 := cell_keep kx00 hB8
      replace kx01 := cell_keep kx01 hB8
      replace kx10 := cell_keep kx10 hB8
      replace kx11 := cell_keep kx11 hB8
      have hA4 : Below w8.heap.size w8 (w8.alloc (.cells #[.int .i64 (joinF ge gp he hp).1, .slice Ag0 ((joinF ge gp he hp).2.1).length cg0] 28)) := (Below.refl _ _).alloc (Nat.le_refl _) _
      have sA4 : w8.heap.size < (w8.alloc (.cells #[.int .i64 (joinF ge gp he hp).1, .slice Ag0 ((joinF ge gp he hp).2.1).length cg0] 28)).heap.size := by simp
      replace ht := ht.trans (hA4.mono ht.size)
      replace hp0 := hp0.now hA4
      replace hx0 := hx0.now hA4
      replace hx1 := hx1.now hA4
      replace hg0 := hg0.now hA4
      replace ka00 := cell_keep ka00 hA4
      replace ka01 := cell_keep ka01 hA4
      replace ka10 := cell_keep ka10 hA4
      replace ka11 := cell_keep ka11 hA4
      replace kp00 := cell_keep kp00 hA4
      replace kp01 := cell_keep kp01 hA4
      replace kx00 := cell_keep kx00 hA4
      replace kx01 := cell_keep kx01 hA4
      replace kx10 := cell_keep kx10 hA4
      replace kx11 := cell_keep kx11 hA4
      have kg00 : (w8.alloc (.cells #[.int .i64 (joinF ge gp he hp).1, .slice Ag0 ((joinF ge gp he hp).2.1).length cg0] 28)).cell? ⟨w8.heap.size, 0, none⟩ = some (.int .i64 (joinF ge gp he hp).1) := by simp
      have kg01 : (w8.alloc (.cells #[.int .i64 (joinF ge gp he hp).1, .slice Ag0 ((joinF ge gp he hp).2.1).length cg0] 28)).cell? ⟨w8.heap.size, 1, none⟩ = some (.slice Ag0 ((joinF ge gp he hp).2.1).length cg0) := by simp
      clear hA4
      go_wp2_with fail
      refine (laws_eqEventGraph _ _ _ _ _ _ _ hg0.lst hp0.lst).mono ?_
      rintro e w9 ⟨rfl, hB9⟩
      have s9 := hB9.size
      replace ht := ht.trans (hB9.mono ht.size)
      replace hp0 := hp0.now hB9
      replace hx0 := hx0.now hB9
      replace hx1 := hx1.now hB9
      replace hg0 := hg0.now hB9
      replace ka00 := cell_keep ka00 hB9
      replace ka01 := cell_keep ka01 hB9
      replace ka10 := cell_keep ka10 hB9
      replace ka11 := cell_keep ka11 hB9
      replace kp00 := cell_keep kp00 hB9
      replace kp01 := cell_keep kp01 hB9
      replace kx00 := cell_keep kx00 hB9
      replace kx01 := cell_keep kx01 hB9
      replace kx10 := cell_keep kx10 hB9
      replace kx11 := cell_keep kx11 hB9
      replace kg00 := cell_keep kg00 hB9
      replace kg01 := cell_keep kg01 hB9
      go_wp2_with fail
      have hbz := ((b0.below ht (Nat.le_refl _)).more ht.size)
      go_region_held3 (fun w' => w'.cell? ⟨w6.heap.size, 0, none⟩ = some (.int .i64 ge) ∧ w'.cell? ⟨w6.heap.size, 1, none⟩ = some (.slice Ax0 gp.length cx0) ∧ w'.cell? ⟨w.heap.size, 0, none⟩ = some (.int .i64 ge) ∧ w'.cell? ⟨w.heap.size, 1, none⟩ = some (v)) (first | exact ⟨kx00, kx01, ka00, ka01⟩ | exact ⟨fkx00, fkx01, fka00, fka01⟩ | exact ⟨ekx00, ekx01, eka00, eka01⟩ | go_keep) (first | (go_at_call 17; refine (laws_toEventGraph _ _ _ _ (show Lst Place.cells 4 w9.drew w9.drew.heap.size _ _ from hbz) hn0).mono ?_; rintro e w10 ⟨z0, rfl, hz0, hB10⟩; have fkx00 := cell_keep (w := w9.drew) kx00 hB10; have fkx01 := cell_keep (w := w9.drew) kx01 hB10; have fka00 := cell_keep (w := w9.drew) ka00 hB10; have fka01 := cell_keep (w := w9.drew) ka01 hB10) | (go_at_call 19; refine (laws_eqEventGraph _ _ _ _ _ _ _ (Lst.now (w := w9.drew) hx0.lst hB10) hz0.lst).mono ?_; rintro e w11 ⟨rfl, hB11⟩; have ekx00 := cell_keep fkx00 hB11; have ekx01 := cell_keep fkx01 hB11; have eka00 := cell_keep fka00 hB11; have eka01 := cell_keep fka01 hB11))
      clear fkx00 fkx01 fka00 fka01 ekx00 ekx01 eka00 eka01
      have s10 := Below.size (w := w9.drew) hB10
      have s11 := hB11.size
      have hD : Below w9.heap.size w9 w11 := ((Below.refl _ w9).drew.trans hB10).trans (hB11.mono s10)
      replace ht := ht.trans (hD.mono ht.size)
      replace hp0 := hp0.now hD
      replace hx0 := hx0.now hD
      replace hx1 := hx1.now hD
      replace hg0 := hg0.now hD
      replace ka00 := cell_keep ka00 hD
      replace ka01 := cell_keep ka01 hD
      replace ka10 := cell_keep ka10 hD
      replace ka11 := cell_keep ka11 hD
      replace kp00 := cell_keep kp00 hD
      replace kp01 := cell_keep kp01 hD
      replace kx00 := cell_keep kx00 hD
      replace kx01 := cell_keep kx01 hD
      replace kx10 := cell_keep kx10 hD
      replace kx11 := cell_keep kx11 hD
      replace kg00 := cell_keep kg00 hD
      replace kg01 := cell_keep kg01 hD
      clear hD
      go_wp2_with fail
      have hbz := ((b1.below ht (Nat.le_refl _)).more ht.size)
      go_region_held3 (fun w' => w'.cell? ⟨w7.heap.size, 0, none⟩ = some (.int .i64 he) ∧ w'.cell? ⟨w7.heap.size, 1, none⟩ = some (.slice Ax1 hp.length cx1) ∧ w'.cell? ⟨w.heap.size + 1, 0, none⟩ = some (.int .i64 he) ∧ w'.cell? ⟨w.heap.size + 1, 1, none⟩ = some (u)) (first | exact ⟨kx10, kx11, ka10, ka11⟩ | exact ⟨fkx10, fkx11, fka10, fka11⟩ | exact ⟨ekx10, ekx11, eka10, eka11⟩ | go_keep) (first | (go_at_call 17; refine (laws_toEventGraph _ _ _ _ (show Lst Place.cells 4 w11.drew w11.drew.heap.size _ _ from hbz) hn1).mono ?_; rintro e w12 ⟨z1, rfl, hz1, hB12⟩; have fkx10 := cell_keep (w := w11.drew) kx10 hB12; have fkx11 := cell_keep (w := w11.drew) kx11 hB12; have fka10 := cell_keep (w := w11.drew) ka10 hB12; have fka11 := cell_keep (w := w11.drew) ka11 hB12) | (go_at_call 19; refine (laws_eqEventGraph _ _ _ _ _ _ _ (Lst.now (w := w11.drew) hx1.lst hB12) hz1.lst).mono ?_; rintro e w13 ⟨rfl, hB13⟩; have ekx10 := cell_keep fkx10 hB13; have ekx11 := cell_keep fkx11 hB13; have eka10 := cell_keep fka10 hB13; have eka11 := cell_keep fka11 hB13))
      clear fkx10 fkx11 fka10 fka11 ekx10 ekx11 eka10 eka11
      have s12 := Below.size (w := w11.drew) hB12
      have s13 := hB13.size
      have hD : Below w11.heap.size w11 w13 := ((Below.refl _ w11).drew.trans hB12).trans (hB13.mono s12)
      replace ht := ht.trans (hD.mono ht.size)
      replace hp0 := hp0.now hD
      replace hx0 := hx0.now hD
      replace hx1 := hx1.now hD
      replace hg0 := hg0.now hD
      replace ka00 := cell_keep ka00 hD
      replace ka01 := cell_keep ka01 hD
      replace ka10 := cell_keep ka10 hD
      replace ka11 := cell_keep ka11 hD
      replace kp00 := cell_keep kp00 hD
      replace kp01 := cell_keep kp01 hD
      replace kx00 := cell_keep kx00 hD
      replace kx01 := cell_keep kx01 hD
      replace kx10 := cell_keep kx10 hD
      replace kx11 := cell_keep kx11 hD
      replace kg00 := cell_keep kg00 hD
      replace kg01 := cell_keep kg01 hD
      clear hD
      go_wp2_with fail
      refine (laws_markEventGraph _ _ _ _ _ _ hx0 hn0 (by omega) (by omega)).mono ?_
      clear hx0
      rintro e w14 ⟨rfl, hx0, hG⟩
      replace hp0 := own_kept hp0 hG (by intro k hk hk'; have q1 := rp0.out k hk; have q2 := rx0.out k hk'; omega)
      replace hx1 := own_kept hx1 hG (by intro k hk hk'; have q1 := rx1.out k hk; have q2 := rx0.out k hk'; omega)
      replace hg0 := own_kept hg0 hG (by intro k hk hk'; have q1 := rg0.out k hk; have q2 := rx0.out k hk'; omega)
      replace ka00 := cell_kept ka00 hG (by intro hk; have q2 := rx0.out _ hk; simp at * <;> omega)
      replace ka01 := cell_kept ka01 hG (by intro hk; have q2 := rx0.out _ hk; simp at * <;> omega)
      replace ka10 := cell_kept ka10 hG (by intro hk; have q2 := rx0.out _ hk; simp at * <;> omega)
      replace ka11 := cell_kept ka11 hG (by intro hk; have q2 := rx0.out _ hk; simp at * <;> omega)
      replace kp00 := cell_kept kp00 hG (by intro hk; have q2 := rx0.out _ hk; simp at * <;> omega)
      replace kp01 := cell_kept kp01 hG (by intro hk; have q2 := rx0.out _ hk; simp at * <;> omega)
      replace kx00 := cell_kept kx00 hG (by intro hk; have q2 := rx0.out _ hk; simp at * <;> omega)
      replace kx01 := cell_kept kx01 hG (by intro hk; have q2 := rx0.out _ hk; simp at * <;> omega)
      replace kx10 := cell_kept kx10 hG (by intro hk; have q2 := rx0.out _ hk; simp at * <;> omega)
      replace kx11 := cell_kept kx11 hG (by intro hk; have q2 := rx0.out _ hk; simp at * <;> omega)
      replace kg00 := cell_kept kg00 hG (by intro hk; have q2 := rx0.out _ hk; simp at * <;> omega)
      replace kg01 := cell_kept kg01 hG (by intro hk; have q2 := rx0.out _ hk; simp at * <;> omega)
      replace ht := ht.grown hG ht.size (by intro k hk; have q2 := rx0.out k hk; omega)
      have s14 := hG.size
      clear hG
      go_wp2_with fail
      refine (laws_markEventGraph _ _ _ _ _ _ hx1 hn1 (by omega) (by omega)).mono ?_
      clear hx1
      rintro e w15 ⟨rfl, hx1, hG⟩
      replace hp0 := own_kept hp0 hG (by intro k hk hk'; have q1 := rp0.out k hk; have q2 := rx1.out k hk'; omega)
      replace hx0 := own_kept hx0 hG (by intro k hk hk'; have q1 := rx0.out k hk; have q2 := rx1.out k hk'; omega)
      replace hg0 := own_kept hg0 hG (by intro k hk hk'; have q1 := rg0.out k hk; have q2 := rx1.out k hk'; omega)
      replace ka00 := cell_kept ka00 hG (by intro hk; have q2 := rx1.out _ hk; simp at * <;> omega)
      replace ka01 := cell_kept ka01 hG (by intro hk; have q2 := rx1.out _ hk; simp at * <;> omega)
      replace ka10 := cell_kept ka10 hG (by intro hk; have q2 := rx1.out _ hk; simp at * <;> omega)
      replace ka11 := cell_kept ka11 hG (by intro hk; have q2 := rx1.out _ hk; simp at * <;> omega)
      replace kp00 := cell_kept kp00 hG (by intro hk; have q2 := rx1.out _ hk; simp at * <;> omega)
      replace kp01 := cell_kept kp01 hG (by intro hk; have q2 := rx1.out _ hk; simp at * <;> omega)
      replace kx00 := cell_kept kx00 hG (by intro hk; have q2 := rx1.out _ hk; simp at * <;> omega)
      replace kx01 := cell_kept kx01 hG (by intro hk; have q2 := rx1.out _ hk; simp at * <;> omega)
      replace kx10 := cell_kept kx10 hG (by intro hk; have q2 := rx1.out _ hk; simp at * <;> omega)
      replace kx11 := cell_kept kx11 hG (by intro hk; have q2 := rx1.out _ hk; simp at * <;> omega)
      replace kg00 := cell_kept kg00 hG (by intro hk; have q2 := rx1.out _ hk; simp at * <;> omega)
      replace kg01 := cell_kept kg01 hG (by intro hk; have q2 := rx1.out _ hk; simp at * <;> omega)
      replace ht := ht.grown hG ht.size (by intro k hk; have q2 := rx1.out k hk; omega)
      have s15 := hG.size
      clear hG
      go_wp2_with fail
      refine (laws_eqEventGraph _ _ _ _ _ _ _ hg0.lst hp0.lst).mono ?_
      rintro e w16 ⟨rfl, hB16⟩
      have s16 := hB16.size
      replace ht := ht.trans (hB16.mono ht.size)
      replace hp0 := hp0.now hB16
      replace hx0 := hx0.now hB16
      replace hx1 := hx1.now hB16
      replace hg0 := hg0.now hB16
      replace ka00 := cell_keep ka00 hB16
      replace ka01 := cell_keep ka01 hB16
      replace ka10 := cell_keep ka10 hB16
      replace ka11 := cell_keep ka11 hB16
      replace kp00 := cell_keep kp00 hB16
      replace kp01 := cell_keep kp01 hB16
      replace kx00 := cell_keep kx00 hB16
      replace kx01 := cell_keep kx01 hB16
      replace kx10 := cell_keep kx10 hB16
      replace kx11 := cell_keep kx11 hB16
      replace kg00 := cell_keep kg00 hB16
      replace kg01 := cell_keep kg01 hB16
      go_wp2_with fail
      clear hx0 rx0
      clear hx1 rx1
      refine (laws_markEventGraph _ _ _ _ _ _ hg0 hlen0 (by omega) (by omega)).mono ?_
      clear hg0
      rintro e w17 ⟨rfl, hg0, hG⟩
      replace hp0 := own_kept hp0 hG (by intro k hk hk'; have q1 := rp0.out k hk; have q2 := rg0.out k hk'; omega)
      replace ka00 := cell_kept ka00 hG (by intro hk; have q2 := rg0.out _ hk; simp at * <;> omega)
      replace ka01 := cell_kept ka01 hG (by intro hk; have q2 := rg0.out _ hk; simp at * <;> omega)
      replace ka10 := cell_kept ka10 hG (by intro hk; have q2 := rg0.out _ hk; simp at * <;> omega)
      replace ka11 := cell_kept ka11 hG (by intro hk; have q2 := rg0.out _ hk; simp at * <;> omega)
      replace kp00 := cell_kept kp00 hG (by intro hk; have q2 := rg0.out _ hk; simp at * <;> omega)
      replace kp01 := cell_kept kp01 hG (by intro hk; have q2 := rg0.out _ hk; simp at * <;> omega)
      replace kx00 := cell_kept kx00 hG (by intro hk; have q2 := rg0.out _ hk; simp at * <;> omega)
      replace kx01 := cell_kept kx01 hG (by intro hk; have q2 := rg0.out _ hk; simp at * <;> omega)
      replace kx10 := cell_kept kx10 hG (by intro hk; have q2 := rg0.out _ hk; simp at * <;> omega)
      replace kx11 := cell_kept kx11 hG (by intro hk; have q2 := rg0.out _ hk; simp at * <;> omega)
      replace kg00 := cell_kept kg00 hG (by intro hk; have q2 := rg0.out _ hk; simp at * <;> omega)
      replace kg01 := cell_kept kg01 hG (by intro hk; have q2 := rg0.out _ hk; simp at * <;> omega)
      replace ht := ht.grown hG ht.size (by intro k hk; have q2 := rg0.out k hk; omega)
      have s17 := hG.size
      clear hG
      go_wp2_with fail
      refine (laws_heldEventGraph _ _ _ _ _ hg0.lst hlen0 (by omega) (by omega)).mono ?_
      rintro e w18 ⟨rfl, hB18⟩
      have s18 := hB18.size
      replace ht := ht.trans (hB18.mono ht.size)
      replace hp0 := hp0.now hB18
      replace hg0 := hg0.now hB18
      replace ka00 := cell_keep ka00 hB18
      replace ka01 := cell_keep ka01 hB18
      replace ka10 := cell_keep ka10 hB18
      replace ka11 := cell_keep ka11 hB18
      replace kp00 := cell_keep kp00 hB18
      replace kp01 := cell_keep kp01 hB18
      replace kx00 := cell_keep kx00 hB18
      replace kx01 := cell_keep kx01 hB18
      replace kx10 := cell_keep kx10 hB18
      replace kx11 := cell_keep kx11 hB18
      replace kg00 := cell_keep kg00 hB18
      replace kg01 := cell_keep kg01 hB18
      go_wp2_with fail
      refine (laws_toEventGraph _ _ _ _ ((b0.below ht (Nat.le_refl _)).more ht.size) hn0).mono ?_
      rintro e w19 ⟨u0, rfl, hu0, hB19⟩
      obtain ⟨Au0, cu0, rfl⟩ := hu0.shape
      have ru0 := Lib.hid hu0.lt
      have s19 := hB19.size
      replace ht := ht.trans (hB19.mono ht.size)
      replace hp0 := hp0.now hB19
      replace hg0 := hg0.now hB19
      replace ka00 := cell_keep ka00 hB19
      replace ka01 := cell_keep ka01 hB19
      replace ka10 := cell_keep ka10 hB19
      replace ka11 := cell_keep ka11 hB19
      replace kp00 := cell_keep kp00 hB19
      replace kp01 := cell_keep kp01 hB19
      replace kx00 := cell_keep kx00 hB19
      replace kx01 := cell_keep kx01 hB19
      replace kx10 := cell_keep kx10 hB19
      replace kx11 := cell_keep kx11 hB19
      replace kg00 := cell_keep kg00 hB19
      replace kg01 := cell_keep kg01 hB19
      go_wp2_with fail
      refine (laws_toEventGraph _ _ _ _ ((b1.below ht (Nat.le_refl _)).more ht.size) hn1).mono ?_
      rintro e w20 ⟨u1, rfl, hu1, hB20⟩
      obtain ⟨Au1, cu1, rfl⟩ := hu1.shape
      have ru1 := Lib.hid hu1.lt
      have s20 := hB20.size
      replace ht := ht.trans (hB20.mono ht.size)
      replace hp0 := hp0.now hB20
      replace hg0 := hg0.now hB20
      replace hu0 := hu0.now hB20
      replace ka00 := cell_keep ka00 hB20
      replace ka01 := cell_keep ka01 hB20
      replace ka10 := cell_keep ka10 hB20
      replace ka11 := cell_keep ka11 hB20
      replace kp00 := cell_keep kp00 hB20
      replace kp01 := cell_keep kp01 hB20
      replace kx00 := cell_keep kx00 hB20
      replace kx01 := cell_keep kx01 hB20
      replace kx10 := cell_keep kx10 hB20
      replace kx11 := cell_keep kx11 hB20
      replace kg00 := cell_keep kg00 hB20
      replace kg01 := cell_keep kg01 hB20
      go_wp2_with fail
      refine (impl_JoinGraphs _ _ _ _ _ _ _ hu0.lst hu1.lst ).mono ?_
      rintro e w21 ⟨k0, rfl, hk0, hB21⟩
      obtain ⟨Ak0, ck0, rfl⟩ := hk0.shape
      have rk0 := Lib.hid hk0.lt
      have s21 := hB21.size
      replace ht := ht.trans (hB21.mono ht.size)
      replace hp0 := hp0.now hB21
      replace hg0 := hg0.now hB21
      replace hu0 := hu0.now hB21
      replace hu1 := hu1.now hB21
      replace ka00 := cell_keep ka00 hB21
      replace ka01 := cell_keep ka01 hB21
      replace ka10 := cell_keep ka10 hB21
      replace ka11 := cell_keep ka11 hB21
      replace kp00 := cell_keep kp00 hB21
      replace kp01 := cell_keep kp01 hB21
      replace kx00 := cell_keep kx00 hB21
      replace kx01 := cell_keep kx01 hB21
      replace kx10 := cell_keep kx10 hB21
      replace kx11 := cell_keep kx11 hB21
      replace kg00 := cell_keep kg00 hB21
      replace kg01 := cell_keep kg01 hB21
      have hA5 : Below w21.heap.size w21 (w21.alloc (.cells #[.int .i64 (joinF ge gp he hp).1, .slice Ak0 ((joinF ge gp he hp).2.1).length ck0] 28)) := (Below.refl _ _).alloc (Nat.le_refl _) _
      have sA5 : w21.heap.size < (w21.alloc (.cells #[.int .i64 (joinF ge gp he hp).1, .slice Ak0 ((joinF ge gp he hp).2.1).length ck0] 28)).heap.size := by simp
      replace ht := ht.trans (hA5.mono ht.size)
      replace hp0 := hp0.now hA5
      replace hg0 := hg0.now hA5
      replace hu0 := hu0.now hA5
      replace hu1 := hu1.now hA5
      replace hk0 := hk0.now hA5
      replace ka00 := cell_keep ka00 hA5
      replace ka01 := cell_keep ka01 hA5
      replace ka10 := cell_keep ka10 hA5
      replace ka11 := cell_keep ka11 hA5
      replace kp00 := cell_keep kp00 hA5
      replace kp01 := cell_keep kp01 hA5
      replace kx00 := cell_keep kx00 hA5
      replace kx01 := cell_keep kx01 hA5
      replace kx10 := cell_keep kx10 hA5
      replace kx11 := cell_keep kx11 hA5
      replace kg00 := cell_keep kg00 hA5
      replace kg01 := cell_keep kg01 hA5
      have kk00 : (w21.alloc (.cells #[.int .i64 (joinF ge gp he hp).1, .slice Ak0 ((joinF ge gp he hp).2.1).length ck0] 28)).cell? ⟨w21.heap.size, 0, none⟩ = some (.int .i64 (joinF ge gp he hp).1) := by simp
      have kk01 : (w21.alloc (.cells #[.int .i64 (joinF ge gp he hp).1, .slice Ak0 ((joinF ge gp he hp).2.1).length ck0] 28)).cell? ⟨w21.heap.size, 1, none⟩ = some (.slice Ak0 ((joinF ge gp he hp).2.1).length ck0) := by simp
      clear hA5
      go_wp2_with fail
      refine (laws_eqEventGraph _ _ _ _ _ _ _ hk0.lst hp0.lst).mono ?_
      rintro e w22 ⟨rfl, hB22⟩
      have s22 := hB22.size
      replace ht := ht.trans (hB22.mono ht.size)
      replace hp0 := hp0.now hB22
      replace hg0 := hg0.now hB22
      replace hu0 := hu0.now hB22
      replace hu1 := hu1.now hB22
      replace hk0 := hk0.now hB22
      replace ka00 := cell_keep ka00 hB22
      replace ka01 := cell_keep ka01 hB22
      replace ka10 := cell_keep ka10 hB22
      replace ka11 := cell_keep ka11 hB22
      replace kp00 := cell_keep kp00 hB22
      replace kp01 := cell_keep kp01 hB22
      replace kx00 := cell_keep kx00 hB22
      replace kx01 := cell_keep kx01 hB22
      replace kx10 := cell_keep kx10 hB22
      replace kx11 := cell_keep kx11 hB22
      replace kg00 := cell_keep kg00 hB22
      replace kg01 := cell_keep kg01 hB22
      replace kk00 := cell_keep kk00 hB22
      replace kk01 := cell_keep kk01 hB22
      go_wp2_with fail
      refine (laws_heldEventGraph _ _ _ _ _ hg0.lst hlen0 (by omega) (by omega)).mono ?_
      rintro e w23 ⟨rfl, hB23⟩
      have s23 := hB23.size
      replace ht := ht.trans (hB23.mono ht.size)
      replace hp0 := hp0.now hB23
      replace hg0 := hg0.now hB23
      replace hu0 := hu0.now hB23
      replace hu1 := hu1.now hB23
      replace hk0 := hk0.now hB23
      replace ka00 := cell_keep ka00 hB23
      replace ka01 := cell_keep ka01 hB23
      replace ka10 := cell_keep ka10 hB23
      replace ka11 := cell_keep ka11 hB23
      replace kp00 := cell_keep kp00 hB23
      replace kp01 := cell_keep kp01 hB23
      replace kx00 := cell_keep kx00 hB23
      replace kx01 := cell_keep kx01 hB23
      replace kx10 := cell_keep kx10 hB23
      replace kx11 := cell_keep kx11 hB23
      replace kg00 := cell_keep kg00 hB23
      replace kg01 := cell_keep kg01 hB23
      replace kk00 := cell_keep kk00 hB23
      replace kk01 := cell_keep kk01 hB23
      go_wp2_with fail
      go_ret
      exact ⟨rfl, (by repeat (first | exact Below.refl _ _ | refine Below.drew ?_ | refine Below.alloc ?_ (by first | omega | (simp; done) | (simp; omega) | (have q0 := ht.size; simp at q0; omega) | (have q0 := ht.size; simp at q0 ⊢; omega)) _ | refine Below.setCell ?_ (by first | omega | (simp; done) | (simp; omega) | (have q0 := ht.size; simp at q0; omega) | (have q0 := ht.size; simp at q0 ⊢; omega)) _ | refine Below.trans ?_ (Below.mono ht (by first | omega | (simp; done) | (simp; omega) | (have q0 := ht.size; simp at q0; omega) | (have q0 := ht.size; simp at q0 ⊢; omega)))))⟩

theorem JoinGraphs_own : ownKnob Try.prog.godebug = none := by kernel_rfl
theorem JoinGraphs_laidOut : laidOutB Try.prog = true := by kernel_rfl
set_option maxRecDepth 100000 in
theorem JoinGraphs_lifted (os : Os) (started : os.Started) (H : Type) (enc : TypeId × Value → H) :
    ReturnsInHanded {} Try.checked os 5 .any (Rows.fnExactJoinGraphsSpec.pre6 enc Try.prog Try.f5 Rows.fnExactJoinGraphsRow.domain false) (Rows.fnExactJoinGraphsSpec.post enc Try.prog Try.f5 false true false false) := by
  refine returnsInHanded_of_change (C := Try.checked) JoinGraphs_own started (by kernel_rfl) Try.func5
    (ChangeSpec.witness6 (enc := enc) (C := Try.checked) false ⟨#[], #[.agg #[.int .i64 0, .slice none 0 0], .agg #[.int .i64 0, .slice none 0 0]], []⟩ 8 (by kernel_rfl) (by kernel_rfl) (by kernel_rfl) (by kernel_rfl)) ?_
  intro W base args ds gs before hval0 hW hcnd _
  have hval : ∀ (j : Nat) t v, Try.f5.params[j]? = some t → args[j]? = some v → Value.okWide Try.prog W .any base t v := hval0
  have hW' := hW
  obtain ⟨p, q, hA0, hV, rfl, hfz, hnd⟩ := hW
  have hA : DataW.TrodAll enc Try.prog W 0 (fun _ => true) true Try.f5.params.toList args.toList ds p := hA0
  rw [Try.params5] at hA hval
  obtain ⟨v0, vs0, d0, ds0, p0, q0, hargs, rfl, rfl, h0, r0⟩ := trodAll_cons hA
  obtain ⟨v1, vs1, d1, ds1, p1, q1, rfl, rfl, rfl, h1, r1⟩ := trodAll_cons r0
  obtain ⟨rfl, rfl, rfl⟩ := trodAll_nil r1
  obtain rfl : args = #[v0, v1] := by cases args; simp_all
  obtain ⟨rfl, rfl⟩ := trodVars_none hV
  have k0 := h0
  have lt0 : ∀ x ∈ p0, x.block < W.heap.size := by obtain ⟨m, hm⟩ := k0; exact DataW.trod_lt m _ _ _ hm
  have k1 := h1
  have lt1 : ∀ x ∈ p1, x.block < W.heap.size := by obtain ⟨m, hm⟩ := k1; exact DataW.trod_lt m _ _ _ hm
  obtain ⟨e0, s0, y0, u0, fl0, rfl, _, _, hy0, hu0⟩ := Joins.open_agg2 Try.underlying24 (by kernel_rfl) (by kernel_rfl) (hval 0 24 v0 rfl rfl) h0
  obtain ⟨g0, he0, _, w0⟩ := DataW.trod_int Try.underlying2 hy0
  simp only [List.cons.injEq, and_true] at he0
  subst he0
  obtain ⟨len0, z0, hR0⟩ := open_structs Try.underlying22 Try.underlying119 (by kernel_rfl) (by kernel_rfl) (by decide) (by intro j f hj; match j, hj with | 0, hj => (injection hj with hj; subst hj; exact Try.underlying2) | 1, hj => (injection hj with hj; subst hj; exact Try.underlying2) | 2, hj => (injection hj with hj; subst hj; exact Try.underlying2) | 3, hj => (injection hj with hj; subst hj; exact Try.underlying2) | n + 4, hj => simp at hj) (hu0)
  have a0 := rows_lst Place.cells Place.cells_len (fun i => ⟨z0 i 0, z0 i 1, z0 i 2, z0 i 3⟩) (by intro i j hj; match j, hj with | 0, _ => rfl | 1, _ => rfl | 2, _ => rfl | 3, _ => rfl | n + 4, hj => omega) hR0
  have o0 : Hid (∀ x ∈ (List.range len0).map fun i => (⟨z0 i 0, z0 i 1, z0 i 2, z0 i 3⟩ : Place), x.ok) := by
    intro x hx
    obtain ⟨i, hi, rfl⟩ := List.mem_map.1 hx
    have hi := List.mem_range.1 hi
    exact ⟨hR0.2.2 i 0 hi (by decide), hR0.2.2 i 1 hi (by decide), hR0.2.2 i 2 hi (by decide), hR0.2.2 i 3 hi (by decide)⟩
  have o0 : Hid (i64ok g0 ∧ ∀ x ∈ (List.range len0).map fun i => (⟨z0 i 0, z0 i 1, z0 i 2, z0 i 3⟩ : Place), x.ok) := ⟨wf_i64ok w0, o0⟩
  obtain ⟨e1, s1, y1, u1, fl1, rfl, _, _, hy1, hu1⟩ := Joins.open_agg2 Try.underlying24 (by kernel_rfl) (by kernel_rfl) (hval 1 24 v1 rfl rfl) h1
  obtain ⟨g1, he1, _, w1⟩ := DataW.trod_int Try.underlying2 hy1
  simp only [List.cons.injEq, and_true] at he1
  subst he1
  obtain ⟨len1, z1, hR1⟩ := open_structs Try.underlying22 Try.underlying119 (by kernel_rfl) (by kernel_rfl) (by decide) (by intro j f hj; match j, hj with | 0, hj => (injection hj with hj; subst hj; exact Try.underlying2) | 1, hj => (injection hj with hj; subst hj; exact Try.underlying2) | 2, hj => (injection hj with hj; subst hj; exact Try.underlying2) | 3, hj => (injection hj with hj; subst hj; exact Try.underlying2) | n + 4, hj => simp at hj) (hu1)
  have a1 := rows_lst Place.cells Place.cells_len (fun i => ⟨z1 i 0, z1 i 1, z1 i 2, z1 i 3⟩) (by intro i j hj; match j, hj with | 0, _ => rfl | 1, _ => rfl | 2, _ => rfl | 3, _ => rfl | n + 4, hj => omega) hR1
  have o1 : Hid (∀ x ∈ (List.range len1).map fun i => (⟨z1 i 0, z1 i 1, z1 i 2, z1 i 3⟩ : Place), x.ok) := by
    intro x hx
    obtain ⟨i, hi, rfl⟩ := List.mem_map.1 hx
    have hi := List.mem_range.1 hi
    exact ⟨hR1.2.2 i 0 hi (by decide), hR1.2.2 i 1 hi (by decide), hR1.2.2 i 2 hi (by decide), hR1.2.2 i 3 hi (by decide)⟩
  have o1 : Hid (i64ok g1 ∧ ∀ x ∈ (List.range len1).map fun i => (⟨z1 i 0, z1 i 1, z1 i 2, z1 i 3⟩ : Place), x.ok) := ⟨wf_i64ok w1, o1⟩
  clear hA0 hval0
  refine (law_JoinGraphs _ _ _ _ _ _ W a0 a1 o0 o1).mono fun e W' ⟨he, bel⟩ => ?_
  subst he
  exact ⟨_, rfl, _, _, _, [], _, [], hW', trodAll_mk1 (shut_bool Try.underlying4 _), (trodAll_cons_mk (Below.trod JoinGraphs_laidOut (by kernel_rfl) (of_decide_eq_true (by kernel_rfl)) k0 bel lt0) (trodAll_cons_mk (Below.trod JoinGraphs_laidOut (by kernel_rfl) (of_decide_eq_true (by kernel_rfl)) k1 bel lt1) trodAll_mk0)), rfl, bel.frame _, fun h => by cases h⟩
theorem JoinGraphs_over : Rows.fnExactJoinGraphsRow.holds Try.pinned (OpenSpec.ofChange Rows.fnExactJoinGraphsSpec) :=
  OpenClaim.holds_of_wide 5 Try.f5 rfl rfl rfl rfl rfl rfl rfl ⟨rfl, rfl, rfl, rfl, rfl⟩ rfl rfl rfl rfl rfl (by kernel_rfl) Try.func5 (by kernel_rfl)
    (of_decide_eq_true (by kernel_rfl)) (by unfold Func.isWrapper; first | (rw [if_pos (by decide +kernel)]; kernel_rfl) | (rw [if_neg (by decide +kernel)]; exact ⟨rfl, rfl⟩))
    (fun os started H enc _ => JoinGraphs_lifted os started H enc)
/-- The given statement. -/
theorem JoinGraphs_proved : Rows.FnExactJoinGraphsSaid := JoinGraphs_over
end Go.Proofs.Ytobbidlbihnodaa
