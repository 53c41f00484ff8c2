/-
  FnExactTimePotential returns true for every input: the program's TimePotential gives what the reference's gives (the least time potential); nothing that was there turns.
  Conditions: none beyond the statement's own.
-/
import Derived.Test.YtickecljchccoaaStarE
import Derived.Test.YtickecljchccoaaGLaw
import Derived.Test.YtickecljchccoaaOpen
namespace Go.Proofs.Ytickecljchccoaa
open Go.RowKit Go.ChangeShapes Go.WideShapes Go.ChangeAt Go.Deep
set_option linter.unusedVariables false
set_option linter.unusedSimpArgs false

set_option maxHeartbeats 4000000 in
set_option maxRecDepth 100000 in
theorem law_TimePotential (v : Value) (ge : Int) (gp : List Place) (a b : Int) (w : World) (a0 : Lst Place.cells 4 w w.heap.size v gp) (o0 : Hid (i64ok ge ∧ ∀ x ∈ gp, x.ok)) (o1 : Hid (i64ok a ∧ i64ok b)) :
    Calls Try.prog 7 #[.agg #[.int .i64 ge, v], .agg #[.int .i64 a, .int .i64 b]] w fun e w' => e = .returned (.bool true) ∧ Below w.heap.size w w' := by
  have b0 := (Lst.alloc (Lst.alloc a0 (.cells #[.int .i64 ge, v] 24)) (.cells #[.int .i64 a, .int .i64 b] 50))
  have ht : Below ((w.alloc (.cells #[.int .i64 ge, v] 24)).alloc (.cells #[.int .i64 a, .int .i64 b] 50)).heap.size ((w.alloc (.cells #[.int .i64 ge, v] 24)).alloc (.cells #[.int .i64 a, .int .i64 b] 50)) ((w.alloc (.cells #[.int .i64 ge, v] 24)).alloc (.cells #[.int .i64 a, .int .i64 b] 50)) := Below.refl _ _
  by_cases hs0 : (1048576 : Int) < gp.length
  · have hz : (if (1048576 : Int) < gp.length then (-1 : Int) else (1048576 : Int) - gp.length) = -1 := if_pos hs0
    go_enter Try.func7, Try.ntmps7
    go_wp2_with fail
    have ka00 : ((w.alloc (.cells #[.int .i64 ge, v] 24)).alloc (.cells #[.int .i64 a, .int .i64 b] 50)).cell? ⟨w.heap.size, 0, none⟩ = some (.int .i64 ge) := by simp
    have ka01 : ((w.alloc (.cells #[.int .i64 ge, v] 24)).alloc (.cells #[.int .i64 a, .int .i64 b] 50)).cell? ⟨w.heap.size, 1, none⟩ = some (v) := by simp
    have ka10 : ((w.alloc (.cells #[.int .i64 ge, v] 24)).alloc (.cells #[.int .i64 a, .int .i64 b] 50)).cell? ⟨w.heap.size + 1, 0, none⟩ = some (.int .i64 a) := by simp
    have ka11 : ((w.alloc (.cells #[.int .i64 ge, v] 24)).alloc (.cells #[.int .i64 a, .int .i64 b] 50)).cell? ⟨w.heap.size + 1, 1, none⟩ = some (.int .i64 b) := by simp
    refine (laws_szEventGraph _ _ _ _ _ ((b0.below ht (Nat.le_refl _)).more ht.size) (by omega) (by omega)).mono ?_
    rintro e w1 ⟨rfl, hB1⟩
    have s1 := hB1.size
    replace ht := ht.trans (hB1.mono ht.size)
    replace ka00 := cell_keep ka00 hB1
    replace ka01 := cell_keep ka01 hB1
    replace ka10 := cell_keep ka10 hB1
    replace ka11 := cell_keep ka11 hB1
    go_wp2_with fail
    go_ret
    exact ⟨rfl, (by repeat (first | exact Below.refl _ _ | refine Below.drew ?_ | refine Below.alloc ?_ (by first | omega | (simp; done) | (simp; omega) | (have q0 := ht.size; simp at q0; omega) | (have q0 := ht.size; simp at q0 ⊢; omega)) _ | refine Below.setCell ?_ (by first | omega | (simp; done) | (simp; omega) | (have q0 := ht.size; simp at q0; omega) | (have q0 := ht.size; simp at q0 ⊢; omega)) _ | refine Below.trans ?_ (Below.mono ht (by first | omega | (simp; done) | (simp; omega) | (have q0 := ht.size; simp at q0; omega) | (have q0 := ht.size; simp at q0 ⊢; omega)))))⟩
  · have hz0 : (if (1048576 : Int) < gp.length then (-1 : Int) else (1048576 : Int) - gp.length) = (1048576 : Int) - gp.length := if_neg hs0
    have hn0 : gp.length ≤ 1048576 := by omega
    have hlen0 : (potF ge gp a b).1.length ≤ 1048576 := potF_len ge gp a b
    go_enter Try.func7, Try.ntmps7
    go_wp2_with fail
    have ka00 : ((w.alloc (.cells #[.int .i64 ge, v] 24)).alloc (.cells #[.int .i64 a, .int .i64 b] 50)).cell? ⟨w.heap.size, 0, none⟩ = some (.int .i64 ge) := by simp
    have ka01 : ((w.alloc (.cells #[.int .i64 ge, v] 24)).alloc (.cells #[.int .i64 a, .int .i64 b] 50)).cell? ⟨w.heap.size, 1, none⟩ = some (v) := by simp
    have ka10 : ((w.alloc (.cells #[.int .i64 ge, v] 24)).alloc (.cells #[.int .i64 a, .int .i64 b] 50)).cell? ⟨w.heap.size + 1, 0, none⟩ = some (.int .i64 a) := by simp
    have ka11 : ((w.alloc (.cells #[.int .i64 ge, v] 24)).alloc (.cells #[.int .i64 a, .int .i64 b] 50)).cell? ⟨w.heap.size + 1, 1, none⟩ = some (.int .i64 b) := by simp
    refine (laws_szEventGraph _ _ _ _ _ ((b0.below ht (Nat.le_refl _)).more ht.size) (by omega) (by omega)).mono ?_
    rintro e w1 ⟨rfl, hB1⟩
    have s1 := hB1.size
    replace ht := ht.trans (hB1.mono ht.size)
    replace ka00 := cell_keep ka00 hB1
    replace ka01 := cell_keep ka01 hB1
    replace ka10 := cell_keep ka10 hB1
    replace ka11 := cell_keep ka11 hB1
    go_wp2_with fail
    have hbz0 := ((b0.below ht (Nat.le_refl _)).more ht.size)
    go_region_held3 (fun w' => w'.cell? ⟨w.heap.size, 0, none⟩ = some (.int .i64 ge) ∧ w'.cell? ⟨w.heap.size, 1, none⟩ = some (v) ∧ w'.cell? ⟨w.heap.size + 1, 0, none⟩ = some (.int .i64 a) ∧ w'.cell? ⟨w.heap.size + 1, 1, none⟩ = some (.int .i64 b)) (first | exact ⟨ka00, ka01, ka10, ka11⟩ | exact ⟨ka00_1, ka01_1, ka10_1, ka11_1⟩ | exact ⟨ka00_2, ka01_2, ka10_2, ka11_2⟩ | exact ⟨ka00_3, ka01_3, ka10_3, ka11_3⟩ | go_keep) (first | (go_at_call 17; refine (laws_toEventGraph v ge gp _ (show Lst Place.cells 4 w1.drew w1.drew.heap.size _ _ from hbz0) hn0).mono ?_; rintro e w2 ⟨y0, rfl, hy0, hB2⟩; obtain ⟨Ay0, cy0, rfl⟩ := hy0.shape; have ry0 := Lib.hid hy0.lt; have ka00_1 := cell_keep (w := w1.drew) ka00 hB2; have ka01_1 := cell_keep (w := w1.drew) ka01 hB2; have ka10_1 := cell_keep (w := w1.drew) ka10 hB2; have ka11_1 := cell_keep (w := w1.drew) ka11 hB2; replace hbz0 := Lst.now (w := w1.drew) hbz0 hB2) | (go_at_call 35; refine (laws_toRatio a b _).mono ?_; rintro e w3 ⟨rfl, hB3⟩; have ka00_2 := cell_keep ka00_1 hB3; have ka01_2 := cell_keep ka01_1 hB3; have ka10_2 := cell_keep ka10_1 hB3; have ka11_2 := cell_keep ka11_1 hB3; replace hbz0 := Lst.now (w := w2) hbz0 hB3; replace hy0 := hy0.now hB3) | (go_at_call 34; refine (spec_TimePotential _ _ _ _ _ _ hy0.lst ).mono ?_; rintro e w4 ⟨p0, rfl, hp0, hB4⟩; obtain ⟨Ap0, cp0, rfl⟩ := hp0.shape; have rp0 := Lib.hid hp0.lt; have ka00_3 := cell_keep ka00_2 hB4; have ka01_3 := cell_keep ka01_2 hB4; have ka10_3 := cell_keep ka10_2 hB4; have ka11_3 := cell_keep ka11_2 hB4))
    clear ka00_1 ka01_1 ka10_1 ka11_1 ka00_2 ka01_2 ka10_2 ka11_2 ka00_3 ka01_3 ka10_3 ka11_3
    clear hbz0
    have s2 := Below.size (w := w1.drew) hB2
    have s3 := Below.size (w := w2) hB3
    have s4 := Below.size (w := w3) hB4
    have dq2 : w1.drew.heap.size = w1.heap.size := rfl
    have hD : Below w1.heap.size w1 w4 := ((((Below.refl _ w1).drew.trans (Below.mono (w := w1.drew) hB2 (show w1.heap.size ≤ _ from by first | exact Nat.le_refl _ | (simp at *; omega) | omega))).trans (Below.mono (w := w2) hB3 (show w1.heap.size ≤ _ from by first | exact Nat.le_refl _ | (simp at *; omega) | omega))).trans (Below.mono (w := w3) hB4 (show w1.heap.size ≤ _ from by first | exact Nat.le_refl _ | (simp at *; omega) | omega)))
    replace ht := ht.trans (hD.mono ht.size)
    replace ka00 := cell_keep ka00 hD
    replace ka01 := cell_keep ka01 hD
    replace ka10 := cell_keep ka10 hD
    replace ka11 := cell_keep ka11 hD
    clear hD
    clear hy0 ry0
    go_wp2_with fail
    refine (laws_toEventGraph _ _ _ _ ((b0.below ht (Nat.le_refl _)).more ht.size) hn0).mono ?_
    rintro e w5 ⟨x0, rfl, hx0, hB5⟩
    obtain ⟨Ax0, cx0, rfl⟩ := hx0.shape
    have rx0 := Lib.hid hx0.lt
    have s5 := hB5.size
    replace ht := ht.trans (hB5.mono ht.size)
    replace hp0 := hp0.now hB5
    replace ka00 := cell_keep ka00 hB5
    replace ka01 := cell_keep ka01 hB5
    replace ka10 := cell_keep ka10 hB5
    replace ka11 := cell_keep ka11 hB5
    have hA1 : Below w5.heap.size w5 (w5.alloc (.cells #[.int .i64 ge, .slice Ax0 gp.length cx0] 31)) := (Below.refl _ _).alloc (Nat.le_refl _) _
    have sA1 : w5.heap.size < (w5.alloc (.cells #[.int .i64 ge, .slice Ax0 gp.length cx0] 31)).heap.size := by simp
    replace ht := ht.trans (hA1.mono ht.size)
    replace hp0 := hp0.now hA1
    replace hx0 := hx0.now hA1
    replace ka00 := cell_keep ka00 hA1
    replace ka01 := cell_keep ka01 hA1
    replace ka10 := cell_keep ka10 hA1
    replace ka11 := cell_keep ka11 hA1
    have kx00 : (w5.alloc (.cells #[.int .i64 ge, .slice Ax0 gp.length cx0] 31)).cell? ⟨w5.heap.size, 0, none⟩ = some (.int .i64 ge) := by simp
    have kx01 : (w5.alloc (.cells #[.int .i64 ge, .slice Ax0 gp.length cx0] 31)).cell? ⟨w5.heap.size, 1, none⟩ = some (.slice Ax0 gp.length cx0) := by simp
    clear hA1
    go_wp2_with fail
    have hqx0 := hx0
    go_region_held3 (fun w' => w'.cell? ⟨w5.heap.size, 0, none⟩ = some (.int .i64 ge) ∧ w'.cell? ⟨w5.heap.size, 1, none⟩ = some (.slice Ax0 gp.length cx0) ∧ w'.cell? ⟨w.heap.size + 1, 0, none⟩ = some (.int .i64 a) ∧ w'.cell? ⟨w.heap.size + 1, 1, none⟩ = some (.int .i64 b)) (first | exact ⟨kx00, kx01, ka10, ka11⟩ | exact ⟨kx00_1, kx01_1, ka10_1, ka11_1⟩ | exact ⟨kx00_2, kx01_2, ka10_2, ka11_2⟩ | go_keep) (first | (go_at_call 35; refine (laws_toRatio a b _).mono ?_; rintro e w6 ⟨rfl, hB6⟩; have kx00_1 := cell_keep (w := (w5.alloc (.cells #[.int .i64 ge, .slice Ax0 gp.length cx0] 31)).drew) kx00 hB6; have kx01_1 := cell_keep (w := (w5.alloc (.cells #[.int .i64 ge, .slice Ax0 gp.length cx0] 31)).drew) kx01 hB6; have ka10_1 := cell_keep (w := (w5.alloc (.cells #[.int .i64 ge, .slice Ax0 gp.length cx0] 31)).drew) ka10 hB6; have ka11_1 := cell_keep (w := (w5.alloc (.cells #[.int .i64 ge, .slice Ax0 gp.length cx0] 31)).drew) ka11 hB6; replace hqx0 := Own.now (w := (w5.alloc (.cells #[.int .i64 ge, .slice Ax0 gp.length cx0] 31)).drew) hqx0 hB6) | (go_at_call 36; refine (impl_TimePotential _ _ _ _ _ _ hqx0.lst ).mono ?_; rintro e w7 ⟨g0, rfl, hg0, hB7⟩; obtain ⟨Ag0, cg0, rfl⟩ := hg0.shape; have rg0 := Lib.hid hg0.lt; have kx00_2 := cell_keep kx00_1 hB7; have kx01_2 := cell_keep kx01_1 hB7; have ka10_2 := cell_keep ka10_1 hB7; have ka11_2 := cell_keep ka11_1 hB7))
    clear kx00_1 kx01_1 ka10_1 ka11_1 kx00_2 kx01_2 ka10_2 ka11_2
    have s6 := Below.size (w := (w5.alloc (.cells #[.int .i64 ge, .slice Ax0 gp.length cx0] 31)).drew) hB6
    have s7 := Below.size (w := w6) hB7
    have dq6 : (w5.alloc (.cells #[.int .i64 ge, .slice Ax0 gp.length cx0] 31)).drew.heap.size = (w5.alloc (.cells #[.int .i64 ge, .slice Ax0 gp.length cx0] 31)).heap.size := rfl
    have hD : Below (w5.alloc (.cells #[.int .i64 ge, .slice Ax0 gp.length cx0] 31)).heap.size (w5.alloc (.cells #[.int .i64 ge, .slice Ax0 gp.length cx0] 31)) w7 := (((Below.refl _ (w5.alloc (.cells #[.int .i64 ge, .slice Ax0 gp.length cx0] 31))).drew.trans (Below.mono (w := (w5.alloc (.cells #[.int .i64 ge, .slice Ax0 gp.length cx0] 31)).drew) hB6 (show (w5.alloc (.cells #[.int .i64 ge, .slice Ax0 gp.length cx0] 31)).heap.size ≤ _ from by first | exact Nat.le_refl _ | (simp at *; omega) | omega))).trans (Below.mono (w := w6) hB7 (show (w5.alloc (.cells #[.int .i64 ge, .slice Ax0 gp.length cx0] 31)).heap.size ≤ _ from by first | exact Nat.le_refl _ | (simp at *; omega) | omega)))
    replace ht := ht.trans (hD.mono ht.size)
    replace hp0 := hp0.now hD
    replace hx0 := hx0.now hD
    replace ka00 := cell_keep ka00 hD
    replace ka01 := cell_keep ka01 hD
    replace ka10 := cell_keep ka10 hD
    replace ka11 := cell_keep ka11 hD
    replace kx00 := cell_keep kx00 hD
    replace kx01 := cell_keep kx01 hD
    clear hD
    clear hqx0
    go_wp2_with fail
    refine (laws_eqInt64S _ _ _ _ _ hg0.lst hp0.lst).mono ?_
    rintro e w8 ⟨rfl, hB8⟩
    have s8 := hB8.size
    replace ht := ht.trans (hB8.mono ht.size)
    replace hp0 := hp0.now hB8
    replace hx0 := hx0.now hB8
    replace hg0 := hg0.now hB8
    replace ka00 := cell_keep ka00 hB8
    replace ka01 := cell_keep ka01 hB8
    replace ka10 := cell_keep ka10 hB8
    replace ka11 := cell_keep ka11 hB8
    replace kx00 := cell_keep kx00 hB8
    replace kx01 := cell_keep kx01 hB8
    go_wp2_with fail
    have hbz := ((b0.below ht (Nat.le_refl _)).more ht.size)
    go_region_held3 (fun w' => w'.cell? ⟨w5.heap.size, 0, none⟩ = some (.int .i64 ge) ∧ w'.cell? ⟨w5.heap.size, 1, none⟩ = some (.slice Ax0 gp.length cx0) ∧ w'.cell? ⟨w.heap.size, 0, none⟩ = some (.int .i64 ge) ∧ w'.cell? ⟨w.heap.size, 1, none⟩ = some (v)) (first | exact ⟨kx00, kx01, ka00, ka01⟩ | exact ⟨fkx00, fkx01, fka00, fka01⟩ | exact ⟨ekx00, ekx01, eka00, eka01⟩ | go_keep) (first | (go_at_call 17; refine (laws_toEventGraph _ _ _ _ (show Lst Place.cells 4 w8.drew w8.drew.heap.size _ _ from hbz) hn0).mono ?_; rintro e w9 ⟨z0, rfl, hz0, hB9⟩; have fkx00 := cell_keep (w := w8.drew) kx00 hB9; have fkx01 := cell_keep (w := w8.drew) kx01 hB9; have fka00 := cell_keep (w := w8.drew) ka00 hB9; have fka01 := cell_keep (w := w8.drew) ka01 hB9) | (go_at_call 20; refine (laws_eqEventGraph _ _ _ _ _ _ _ (Lst.now (w := w8.drew) hx0.lst hB9) hz0.lst).mono ?_; rintro e w10 ⟨rfl, hB10⟩; have ekx00 := cell_keep fkx00 hB10; have ekx01 := cell_keep fkx01 hB10; have eka00 := cell_keep fka00 hB10; have eka01 := cell_keep fka01 hB10))
    clear fkx00 fkx01 fka00 fka01 ekx00 ekx01 eka00 eka01
    have s9 := Below.size (w := w8.drew) hB9
    have dq9 : w8.drew.heap.size = w8.heap.size := rfl
    have s10 := hB10.size
    have hD : Below w8.heap.size w8 w10 := ((Below.refl _ w8).drew.trans hB9).trans (hB10.mono s9)
    replace ht := ht.trans (hD.mono ht.size)
    replace hp0 := hp0.now hD
    replace hx0 := hx0.now hD
    replace hg0 := hg0.now hD
    replace ka00 := cell_keep ka00 hD
    replace ka01 := cell_keep ka01 hD
    replace ka10 := cell_keep ka10 hD
    replace ka11 := cell_keep ka11 hD
    replace kx00 := cell_keep kx00 hD
    replace kx01 := cell_keep kx01 hD
    clear hD
    go_wp2_with fail
    refine (laws_markEventGraph _ _ _ _ _ _ hx0 hn0 (by omega) (by omega)).mono ?_
    clear hx0
    rintro e w11 ⟨rfl, hx0, hG⟩
    replace hp0 := own_kept hp0 hG (by intro k hk hk'; have q1 := rp0.out k hk; have q2 := rx0.out k hk'; omega)
    replace hg0 := own_kept hg0 hG (by intro k hk hk'; have q1 := rg0.out k hk; have q2 := rx0.out k hk'; omega)
    replace ka00 := cell_kept ka00 hG (by intro hk; have q2 := rx0.out _ hk; simp at * <;> omega)
    replace ka01 := cell_kept ka01 hG (by intro hk; have q2 := rx0.out _ hk; simp at * <;> omega)
    replace ka10 := cell_kept ka10 hG (by intro hk; have q2 := rx0.out _ hk; simp at * <;> omega)
    replace ka11 := cell_kept ka11 hG (by intro hk; have q2 := rx0.out _ hk; simp at * <;> omega)
    replace kx00 := cell_kept kx00 hG (by intro hk; have q2 := rx0.out _ hk; simp at * <;> omega)
    replace kx01 := cell_kept kx01 hG (by intro hk; have q2 := rx0.out _ hk; simp at * <;> omega)
    replace ht := ht.grown hG ht.size (by intro k hk; have q2 := rx0.out k hk; omega)
    have s11 := hG.size
    clear hG
    go_wp2_with fail
    refine (laws_eqInt64S _ _ _ _ _ hg0.lst hp0.lst).mono ?_
    rintro e w12 ⟨rfl, hB12⟩
    have s12 := hB12.size
    replace ht := ht.trans (hB12.mono ht.size)
    replace hp0 := hp0.now hB12
    replace hx0 := hx0.now hB12
    replace hg0 := hg0.now hB12
    replace ka00 := cell_keep ka00 hB12
    replace ka01 := cell_keep ka01 hB12
    replace ka10 := cell_keep ka10 hB12
    replace ka11 := cell_keep ka11 hB12
    replace kx00 := cell_keep kx00 hB12
    replace kx01 := cell_keep kx01 hB12
    go_wp2_with fail
    clear hx0 rx0
    refine (laws_markInt64S _ _ _ _ _ hg0 hlen0 (by omega) (by omega)).mono ?_
    clear hg0
    rintro e w13 ⟨rfl, hg0, hG⟩
    replace hp0 := own_kept hp0 hG (by intro k hk hk'; have q1 := rp0.out k hk; have q2 := rg0.out k hk'; omega)
    replace ka00 := cell_kept ka00 hG (by intro hk; have q2 := rg0.out _ hk; simp at * <;> omega)
    replace ka01 := cell_kept ka01 hG (by intro hk; have q2 := rg0.out _ hk; simp at * <;> omega)
    replace ka10 := cell_kept ka10 hG (by intro hk; have q2 := rg0.out _ hk; simp at * <;> omega)
    replace ka11 := cell_kept ka11 hG (by intro hk; have q2 := rg0.out _ hk; simp at * <;> omega)
    replace kx00 := cell_kept kx00 hG (by intro hk; have q2 := rg0.out _ hk; simp at * <;> omega)
    replace kx01 := cell_kept kx01 hG (by intro hk; have q2 := rg0.out _ hk; simp at * <;> omega)
    replace ht := ht.grown hG ht.size (by intro k hk; have q2 := rg0.out k hk; omega)
    have s13 := hG.size
    clear hG
    go_wp2_with fail
    refine (laws_heldInt64S _ _ _ _ _ hg0.lst hlen0 (by omega) (by omega)).mono ?_
    rintro e w' ⟨rfl, rfl⟩
    go_wp2_with fail
    have hbz0 := ((b0.below ht (Nat.le_refl _)).more ht.size)
    go_region_held3 (fun w' => w'.cell? ⟨w.heap.size, 0, none⟩ = some (.int .i64 ge) ∧ w'.cell? ⟨w.heap.size, 1, none⟩ = some (v) ∧ w'.cell? ⟨w.heap.size + 1, 0, none⟩ = some (.int .i64 a) ∧ w'.cell? ⟨w.heap.size + 1, 1, none⟩ = some (.int .i64 b)) (first | exact ⟨ka00, ka01, ka10, ka11⟩ | exact ⟨ka00_1, ka01_1, ka10_1, ka11_1⟩ | exact ⟨ka00_2, ka01_2, ka10_2, ka11_2⟩ | exact ⟨ka00_3, ka01_3, ka10_3, ka11_3⟩ | go_keep) (first | (go_at_call 17; refine (laws_toEventGraph v ge gp _ (show Lst Place.cells 4 w13.drew w13.drew.heap.size _ _ from hbz0) hn0).mono ?_; rintro e w14 ⟨t0, rfl, ht0, hB14⟩; obtain ⟨At0, ct0, rfl⟩ := ht0.shape; have rt0 := Lib.hid ht0.lt; have ka00_1 := cell_keep (w := w13.drew) ka00 hB14; have ka01_1 := cell_keep (w := w13.drew) ka01 hB14; have ka10_1 := cell_keep (w := w13.drew) ka10 hB14; have ka11_1 := cell_keep (w := w13.drew) ka11 hB14; replace hbz0 := Lst.now (w := w13.drew) hbz0 hB14) | (go_at_call 35; refine (laws_toRatio a b _).mono ?_; rintro e w15 ⟨rfl, hB15⟩; have ka00_2 := cell_keep ka00_1 hB15; have ka01_2 := cell_keep ka01_1 hB15; have ka10_2 := cell_keep ka10_1 hB15; have ka11_2 := cell_keep ka11_1 hB15; replace hbz0 := Lst.now (w := w14) hbz0 hB15; replace ht0 := ht0.now hB15) | (go_at_call 36; refine (impl_TimePotential _ _ _ _ _ _ ht0.lst ).mono ?_; rintro e w16 ⟨k0, rfl, hk0, hB16⟩; obtain ⟨Ak0, ck0, rfl⟩ := hk0.shape; have rk0 := Lib.hid hk0.lt; have ka00_3 := cell_keep ka00_2 hB16; have ka01_3 := cell_keep ka01_2 hB16; have ka10_3 := cell_keep ka10_2 hB16; have ka11_3 := cell_keep ka11_2 hB16))
    clear ka00_1 ka01_1 ka10_1 ka11_1 ka00_2 ka01_2 ka10_2 ka11_2 ka00_3 ka01_3 ka10_3 ka11_3
    clear hbz0
    have s14 := Below.size (w := w13.drew) hB14
    have s15 := Below.size (w := w14) hB15
    have s16 := Below.size (w := w15) hB16
    have dq14 : w13.drew.heap.size = w13.heap.size := rfl
    have hD : Below w13.heap.size w13 w16 := ((((Below.refl _ w13).drew.trans (Below.mono (w := w13.drew) hB14 (show w13.heap.size ≤ _ from by first | exact Nat.le_refl _ | (simp at *; omega) | omega))).trans (Below.mono (w := w14) hB15 (show w13.heap.size ≤ _ from by first | exact Nat.le_refl _ | (simp at *; omega) | omega))).trans (Below.mono (w := w15) hB16 (show w13.heap.size ≤ _ from by first | exact Nat.le_refl _ | (simp at *; omega) | omega)))
    replace ht := ht.trans (hD.mono ht.size)
    replace hp0 := hp0.now hD
    replace hg0 := hg0.now hD
    replace ka00 := cell_keep ka00 hD
    replace ka01 := cell_keep ka01 hD
    replace ka10 := cell_keep ka10 hD
    replace ka11 := cell_keep ka11 hD
    replace kx00 := cell_keep kx00 hD
    replace kx01 := cell_keep kx01 hD
    clear hD
    clear ht0 rt0
    go_wp2_with fail
    refine (laws_eqInt64S _ _ _ _ _ hk0.lst hp0.lst).mono ?_
    rintro e w17 ⟨rfl, hB17⟩
    have s17 := hB17.size
    replace ht := ht.trans (hB17.mono ht.size)
    replace hp0 := hp0.now hB17
    replace hg0 := hg0.now hB17
    replace hk0 := hk0.now hB17
    replace ka00 := cell_keep ka00 hB17
    replace ka01 := cell_keep ka01 hB17
    replace ka10 := cell_keep ka10 hB17
    replace ka11 := cell_keep ka11 hB17
    replace kx00 := cell_keep kx00 hB17
    replace kx01 := cell_keep kx01 hB17
    go_wp2_with fail
    refine (laws_heldInt64S _ _ _ _ _ hg0.lst hlen0 (by omega) (by omega)).mono ?_
    rintro e w' ⟨rfl, rfl⟩
    go_wp2_with fail
    go_ret
    exact ⟨rfl, (by repeat (first | exact Below.refl _ _ | refine Below.drew ?_ | refine Below.alloc ?_ (by first | omega | (simp; done) | (simp; omega) | (have q0 := ht.size; simp at q0; omega) | (have q0 := ht.size; simp at q0 ⊢; omega)) _ | refine Below.setCell ?_ (by first | omega | (simp; done) | (simp; omega) | (have q0 := ht.size; simp at q0; omega) | (have q0 := ht.size; simp at q0 ⊢; omega)) _ | refine Below.trans ?_ (Below.mono ht (by first | omega | (simp; done) | (simp; omega) | (have q0 := ht.size; simp at q0; omega) | (have q0 := ht.size; simp at q0 ⊢; omega)))))⟩

theorem TimePotential_own : ownKnob Try.prog.godebug = none := by kernel_rfl
theorem TimePotential_laidOut : laidOutB Try.prog = true := by kernel_rfl
set_option maxRecDepth 100000 in
theorem TimePotential_lifted (os : Os) (started : os.Started) (H : Type) (enc : TypeId × Value → H) :
    ReturnsInHanded {} Try.checked os 7 .any (Rows.fnExactTimePotentialSpec.pre6 enc Try.prog Try.f7 Rows.fnExactTimePotentialRow.domain false) (Rows.fnExactTimePotentialSpec.post enc Try.prog Try.f7 false true false false) := by
  refine returnsInHanded_of_change (C := Try.checked) TimePotential_own started (by kernel_rfl) Try.func7
    (ChangeSpec.witness6 (enc := enc) (C := Try.checked) false ⟨#[], #[.agg #[.int .i64 0, .slice none 0 0], .agg #[.int .i64 0, .int .i64 0]], []⟩ 8 (by kernel_rfl) (by kernel_rfl) (by kernel_rfl) (by kernel_rfl)) ?_
  intro W base args ds gs before hval0 hW hcnd _
  have hval : ∀ (j : Nat) t v, Try.f7.params[j]? = some t → args[j]? = some v → Value.okWide Try.prog W .any base t v := hval0
  have hW' := hW
  obtain ⟨p, q, hA0, hV, rfl, hfz, hnd⟩ := hW
  have hA : DataW.TrodAll enc Try.prog W 0 (fun _ => true) true Try.f7.params.toList args.toList ds p := hA0
  rw [Try.params7] at hA hval
  obtain ⟨v0, vs0, d0, ds0, p0, q0, hargs, rfl, rfl, h0, r0⟩ := trodAll_cons hA
  obtain ⟨v1, vs1, d1, ds1, p1, q1, rfl, rfl, rfl, h1, r1⟩ := trodAll_cons r0
  obtain ⟨rfl, rfl, rfl⟩ := trodAll_nil r1
  obtain rfl : args = #[v0, v1] := by cases args; simp_all
  obtain ⟨rfl, rfl⟩ := trodVars_none hV
  have k0 := h0
  have lt0 : ∀ x ∈ p0, x.block < W.heap.size := by obtain ⟨m, hm⟩ := k0; exact DataW.trod_lt m _ _ _ hm
  have k1 := h1
  have lt1 : ∀ x ∈ p1, x.block < W.heap.size := by obtain ⟨m, hm⟩ := k1; exact DataW.trod_lt m _ _ _ hm
  obtain ⟨e0, s0, y0, u0, fl0, rfl, _, _, hy0, hu0⟩ := Joins.open_agg2 Try.underlying24 (by kernel_rfl) (by kernel_rfl) (hval 0 24 v0 rfl rfl) h0
  obtain ⟨g0, he0, _, w0⟩ := DataW.trod_int Try.underlying2 hy0
  simp only [List.cons.injEq, and_true] at he0
  subst he0
  obtain ⟨len0, z0, hR0⟩ := open_structs Try.underlying22 Try.underlying135 (by kernel_rfl) (by kernel_rfl) (by decide) (by intro j f hj; match j, hj with | 0, hj => (injection hj with hj; subst hj; exact Try.underlying2) | 1, hj => (injection hj with hj; subst hj; exact Try.underlying2) | 2, hj => (injection hj with hj; subst hj; exact Try.underlying2) | 3, hj => (injection hj with hj; subst hj; exact Try.underlying2) | n + 4, hj => simp at hj) (hu0)
  have a0 := rows_lst Place.cells Place.cells_len (fun i => ⟨z0 i 0, z0 i 1, z0 i 2, z0 i 3⟩) (by intro i j hj; match j, hj with | 0, _ => rfl | 1, _ => rfl | 2, _ => rfl | 3, _ => rfl | n + 4, hj => omega) hR0
  have o0 : Hid (∀ x ∈ (List.range len0).map fun i => (⟨z0 i 0, z0 i 1, z0 i 2, z0 i 3⟩ : Place), x.ok) := by
    intro x hx
    obtain ⟨i, hi, rfl⟩ := List.mem_map.1 hx
    have hi := List.mem_range.1 hi
    exact ⟨hR0.2.2 i 0 hi (by decide), hR0.2.2 i 1 hi (by decide), hR0.2.2 i 2 hi (by decide), hR0.2.2 i 3 hi (by decide)⟩
  have o0 : Hid (i64ok g0 ∧ ∀ x ∈ (List.range len0).map fun i => (⟨z0 i 0, z0 i 1, z0 i 2, z0 i 3⟩ : Place), x.ok) := ⟨wf_i64ok w0, o0⟩
  obtain ⟨e1, s1, y1, u1, fl1, rfl, _, _, hy1, hu1⟩ := Joins.open_agg2 Try.underlying50 (by kernel_rfl) (by kernel_rfl) (hval 1 50 v1 rfl rfl) h1
  obtain ⟨g1, ge1, _, gw1⟩ := DataW.trod_int Try.underlying2 hy1
  simp only [List.cons.injEq, and_true] at ge1
  subst ge1
  obtain ⟨i1, ie1, _, iw1⟩ := DataW.trod_int Try.underlying2 hu1
  simp only [List.cons.injEq, and_true] at ie1
  subst ie1
  have o1 : Hid (i64ok g1 ∧ i64ok i1) := ⟨wf_i64ok gw1, wf_i64ok iw1⟩
  clear hA0 hval0
  refine (law_TimePotential _ _ _ _ _ W a0 o0 o1).mono fun e W' ⟨he, bel⟩ => ?_
  subst he
  exact ⟨_, rfl, _, _, _, [], _, [], hW', trodAll_mk1 (shut_bool Try.underlying4 _), (trodAll_cons_mk (Below.trod TimePotential_laidOut (by kernel_rfl) (of_decide_eq_true (by kernel_rfl)) k0 bel lt0) (trodAll_cons_mk (Below.trod TimePotential_laidOut (by kernel_rfl) (of_decide_eq_true (by kernel_rfl)) k1 bel lt1) trodAll_mk0)), rfl, bel.frame _, fun h => by cases h⟩
theorem TimePotential_over : Rows.fnExactTimePotentialRow.holds Try.pinned (OpenSpec.ofChange Rows.fnExactTimePotentialSpec) :=
  OpenClaim.holds_of_wide 7 Try.f7 rfl rfl rfl rfl rfl rfl rfl ⟨rfl, rfl, rfl, rfl, rfl⟩ rfl rfl rfl rfl rfl (by kernel_rfl) Try.func7 (by kernel_rfl)
    (of_decide_eq_true (by kernel_rfl)) (by unfold Func.isWrapper; first | (rw [if_pos (by decide +kernel)]; kernel_rfl) | (rw [if_neg (by decide +kernel)]; exact ⟨rfl, rfl⟩))
    (fun os started H enc _ => TimePotential_lifted os started H enc)
/-- The given statement. -/
theorem TimePotential_proved : Rows.FnExactTimePotentialSaid := TimePotential_over
end Go.Proofs.Ytickecljchccoaa
