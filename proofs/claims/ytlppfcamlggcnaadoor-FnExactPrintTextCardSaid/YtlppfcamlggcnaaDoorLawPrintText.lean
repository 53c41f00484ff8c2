/-
  FnExactPrintText, the tied card: the program's PrintText gives what the reference's gives (the text of lines of a graph); nothing that was there turns.
  Conditions: none beyond the statement's own.
-/
import Derived.Test.YtlppfcamlggcnaaDoorPrtJ
import Derived.Test.YtlppfcamlggcnaaDoorPrtS
import Derived.Test.YtlppfcamlggcnaaDoorGLaw
import Derived.Test.YtlppfcamlggcnaaDoorOpen
import Derived.Test.YtlppfcamlggcnaaDoorDoor
namespace Go.Proofs.YtlppfcamlggcnaaDoor
open Go.RowKit Go.ChangeShapes Go.WideShapes Go.ChangeAt Go.Deep
set_option linter.unusedVariables false
set_option linter.unusedSimpArgs false

set_option maxHeartbeats 4000000 in
set_option maxRecDepth 100000 in
theorem law_PrintText (v : Value) (ge : Int) (gp : List Place) (u : Value) (m : List ByteArray) (w : World) (a0 : Lst Place.cells 4 w w.heap.size v gp) (a1 : Lst strCell 1 w w.heap.size u m) (o0 : Hid (i64ok ge ∧ ∀ x ∈ gp, x.ok)) (o1 : Hid (∀ s ∈ m, s.size ≤ maxLen)) (hE : TabOf w) :
    Calls Tryd.prog 6 #[.agg #[.int .i64 ge, v], u] w fun e w' => e = .returned (.bool true) ∧ Below w.heap.size w w' := by
  have b0 := (Lst.alloc a0 (.cells #[.int .i64 ge, v] 53))
  have b1 := (Lst.alloc a1 (.cells #[.int .i64 ge, v] 53))
  have ht : Below (w.alloc (.cells #[.int .i64 ge, v] 53)).heap.size (w.alloc (.cells #[.int .i64 ge, v] 53)) (w.alloc (.cells #[.int .i64 ge, v] 53)) := Below.refl _ _
  by_cases hs0 : (1048576 : Int) < gp.length
  · have hz : (if (1048576 : Int) < gp.length then (-1 : Int) else (1048576 : Int) - gp.length) = -1 := if_pos hs0
    go_enter Tryd.func6, Tryd.ntmps6
    go_wp2_with fail
    have ka00 : (w.alloc (.cells #[.int .i64 ge, v] 53)).cell? ⟨w.heap.size, 0, none⟩ = some (.int .i64 ge) := by simp
    have ka01 : (w.alloc (.cells #[.int .i64 ge, v] 53)).cell? ⟨w.heap.size, 1, none⟩ = some (v) := by simp
    refine (laws_szEventGraph _ _ _ _ _ ((b0.below ht (Nat.le_refl _)).more ht.size) (by omega) (by omega)).mono ?_
    rintro e w1 ⟨rfl, hB1⟩
    have s1 := hB1.size
    replace ht := ht.trans (hB1.mono ht.size)
    replace ka00 := cell_keep ka00 hB1
    replace ka01 := cell_keep ka01 hB1
    go_wp2_with fail
    go_ret
    exact ⟨rfl, (by repeat (first | exact Below.refl _ _ | refine Below.drew ?_ | refine Below.alloc ?_ (by first | omega | (simp; done) | (simp; omega) | (have q0 := ht.size; simp at q0; omega) | (have q0 := ht.size; simp at q0 ⊢; omega)) _ | refine Below.setCell ?_ (by first | omega | (simp; done) | (simp; omega) | (have q0 := ht.size; simp at q0; omega) | (have q0 := ht.size; simp at q0 ⊢; omega)) _ | refine Below.trans ?_ (Below.mono ht (by first | omega | (simp; done) | (simp; omega) | (have q0 := ht.size; simp at q0; omega) | (have q0 := ht.size; simp at q0 ⊢; omega)))))⟩
  · have hz0 : (if (1048576 : Int) < gp.length then (-1 : Int) else (1048576 : Int) - gp.length) = (1048576 : Int) - gp.length := if_neg hs0
    have hn0 : gp.length ≤ 1048576 := by omega
    by_cases hs1 : (1048576 : Int) - gp.length < ((m.length : Int) + sumSz m)
    · have hz : (if (1048576 : Int) - gp.length < ((m.length : Int) + sumSz m) then (-1 : Int) else (1048576 : Int) - gp.length - m.length - sumSz m) = -1 := if_pos hs1
      go_enter Tryd.func6, Tryd.ntmps6
      go_wp2_with fail
      have ka00 : (w.alloc (.cells #[.int .i64 ge, v] 53)).cell? ⟨w.heap.size, 0, none⟩ = some (.int .i64 ge) := by simp
      have ka01 : (w.alloc (.cells #[.int .i64 ge, v] 53)).cell? ⟨w.heap.size, 1, none⟩ = some (v) := by simp
      refine (laws_szEventGraph _ _ _ _ _ ((b0.below ht (Nat.le_refl _)).more ht.size) (by omega) (by omega)).mono ?_
      rintro e w1 ⟨rfl, hB1⟩
      have s1 := hB1.size
      replace ht := ht.trans (hB1.mono ht.size)
      replace ka00 := cell_keep ka00 hB1
      replace ka01 := cell_keep ka01 hB1
      go_wp2_with fail
      refine (laws_szStringS _ _ _ _ _ ((b1.below ht (Nat.le_refl _)).more ht.size) (by omega) (by omega) o1).mono ?_
      rintro e w' ⟨rfl, rfl⟩
      go_wp2_with fail
      go_ret
      exact ⟨rfl, (by repeat (first | exact Below.refl _ _ | refine Below.drew ?_ | refine Below.alloc ?_ (by first | omega | (simp; done) | (simp; omega) | (have q0 := ht.size; simp at q0; omega) | (have q0 := ht.size; simp at q0 ⊢; omega)) _ | refine Below.setCell ?_ (by first | omega | (simp; done) | (simp; omega) | (have q0 := ht.size; simp at q0; omega) | (have q0 := ht.size; simp at q0 ⊢; omega)) _ | refine Below.trans ?_ (Below.mono ht (by first | omega | (simp; done) | (simp; omega) | (have q0 := ht.size; simp at q0; omega) | (have q0 := ht.size; simp at q0 ⊢; omega)))))⟩
    · have hz1 : (if (1048576 : Int) - gp.length < ((m.length : Int) + sumSz m) then (-1 : Int) else (1048576 : Int) - gp.length - m.length - sumSz m) = (1048576 : Int) - gp.length - m.length - sumSz m := if_neg hs1
      have hn1 : m.length + sumSz m ≤ 1048576 := by omega
      go_enter Tryd.func6, Tryd.ntmps6
      go_wp2_with fail
      have ka00 : (w.alloc (.cells #[.int .i64 ge, v] 53)).cell? ⟨w.heap.size, 0, none⟩ = some (.int .i64 ge) := by simp
      have ka01 : (w.alloc (.cells #[.int .i64 ge, v] 53)).cell? ⟨w.heap.size, 1, none⟩ = some (v) := by simp
      refine (laws_szEventGraph _ _ _ _ _ ((b0.below ht (Nat.le_refl _)).more ht.size) (by omega) (by omega)).mono ?_
      rintro e w1 ⟨rfl, hB1⟩
      have s1 := hB1.size
      replace ht := ht.trans (hB1.mono ht.size)
      replace ka00 := cell_keep ka00 hB1
      replace ka01 := cell_keep ka01 hB1
      go_wp2_with fail
      refine (laws_szStringS _ _ _ _ _ ((b1.below ht (Nat.le_refl _)).more ht.size) (by omega) (by omega) o1).mono ?_
      rintro e w' ⟨rfl, rfl⟩
      go_wp2_with fail
      refine (laws_toEventGraph _ _ _ _ ((b0.below ht (Nat.le_refl _)).more ht.size) hn0).mono ?_
      rintro e w2 ⟨y0, rfl, hy0, hB2⟩
      obtain ⟨Ay0, cy0, rfl⟩ := hy0.shape
      have ry0 := Lib.hid hy0.lt
      have s2 := hB2.size
      replace ht := ht.trans (hB2.mono ht.size)
      replace ka00 := cell_keep ka00 hB2
      replace ka01 := cell_keep ka01 hB2
      go_wp2_with fail
      refine (laws_toStringS _ _ _ ((b1.below ht (Nat.le_refl _)).more ht.size) hn1).mono ?_
      rintro e w3 ⟨y1, rfl, hy1, hB3⟩
      obtain ⟨Ay1, cy1, rfl⟩ := hy1.shape
      have ry1 := Lib.hid hy1.lt
      have s3 := hB3.size
      replace ht := ht.trans (hB3.mono ht.size)
      replace hy0 := hy0.now hB3
      replace ka00 := cell_keep ka00 hB3
      replace ka01 := cell_keep ka01 hB3
      go_wp2_with fail
      refine (spec_PrintText _ _ _ _ _ _ hy0.lst hy1.lst o1).mono ?_
      rintro e w4 ⟨rfl, hB4⟩
      have s4 := hB4.size
      replace ht := ht.trans (hB4.mono ht.size)
      replace hy0 := hy0.now hB4
      replace hy1 := hy1.now hB4
      replace ka00 := cell_keep ka00 hB4
      replace ka01 := cell_keep ka01 hB4
      go_wp2_with fail
      clear hy0 ry0
      clear hy1 ry1
      refine (laws_toEventGraph _ _ _ _ ((b0.below ht (Nat.le_refl _)).more ht.size) hn0).mono ?_
      rintro e w5 ⟨x0, rfl, hx0, hB5⟩
      obtain ⟨Ax0, cx0, rfl⟩ := hx0.shape
      have rx0 := Lib.hid hx0.lt
      have s5 := hB5.size
      replace ht := ht.trans (hB5.mono ht.size)
      replace ka00 := cell_keep ka00 hB5
      replace ka01 := cell_keep ka01 hB5
      have hA1 : Below w5.heap.size w5 (w5.alloc (.cells #[.int .i64 ge, .slice Ax0 gp.length cx0] 27)) := (Below.refl _ _).alloc (Nat.le_refl _) _
      have sA1 : w5.heap.size < (w5.alloc (.cells #[.int .i64 ge, .slice Ax0 gp.length cx0] 27)).heap.size := by simp
      replace ht := ht.trans (hA1.mono ht.size)
      replace hx0 := hx0.now hA1
      replace ka00 := cell_keep ka00 hA1
      replace ka01 := cell_keep ka01 hA1
      have kx00 : (w5.alloc (.cells #[.int .i64 ge, .slice Ax0 gp.length cx0] 27)).cell? ⟨w5.heap.size, 0, none⟩ = some (.int .i64 ge) := by simp
      have kx01 : (w5.alloc (.cells #[.int .i64 ge, .slice Ax0 gp.length cx0] 27)).cell? ⟨w5.heap.size, 1, none⟩ = some (.slice Ax0 gp.length cx0) := by simp
      clear hA1
      go_wp2_with fail
      refine (laws_toStringS _ _ _ ((b1.below ht (Nat.le_refl _)).more ht.size) hn1).mono ?_
      rintro e w6 ⟨x1, rfl, hx1, hB6⟩
      obtain ⟨Ax1, cx1, rfl⟩ := hx1.shape
      have rx1 := Lib.hid hx1.lt
      have s6 := hB6.size
      replace ht := ht.trans (hB6.mono ht.size)
      replace hx0 := hx0.now hB6
      replace ka00 := cell_keep ka00 hB6
      replace ka01 := cell_keep ka01 hB6
      replace kx00 := cell_keep kx00 hB6
      replace kx01 := cell_keep kx01 hB6
      go_wp2_with fail
      refine (impl_PrintText _ _ _ _ _ _ hx0.lst hx1.lst ((hE.now ((Below.refl _ _).alloc (Nat.le_refl _) _)).now ht) o1).mono ?_
      rintro e w7 ⟨rfl, hB7⟩
      have s7 := hB7.size
      replace ht := ht.trans (hB7.mono ht.size)
      replace hx0 := hx0.now hB7
      replace hx1 := hx1.now hB7
      replace ka00 := cell_keep ka00 hB7
      replace ka01 := cell_keep ka01 hB7
      replace kx00 := cell_keep kx00 hB7
      replace kx01 := cell_keep kx01 hB7
      go_wp2_with fail
      have hbz := ((b0.below ht (Nat.le_refl _)).more ht.size)
      go_region_held3 (fun w' => w'.cell? ⟨w5.heap.size, 0, none⟩ = some (.int .i64 ge) ∧ w'.cell? ⟨w5.heap.size, 1, none⟩ = some (.slice Ax0 gp.length cx0) ∧ w'.cell? ⟨w.heap.size, 0, none⟩ = some (.int .i64 ge) ∧ w'.cell? ⟨w.heap.size, 1, none⟩ = some (v)) (first | exact ⟨kx00, kx01, ka00, ka01⟩ | exact ⟨fkx00, fkx01, fka00, fka01⟩ | exact ⟨ekx00, ekx01, eka00, eka01⟩ | go_keep) (first | (go_at_call 36; refine (laws_toEventGraph _ _ _ _ (show Lst Place.cells 4 w7.drew w7.drew.heap.size _ _ from hbz) hn0).mono ?_; rintro e w8 ⟨z0, rfl, hz0, hB8⟩; have fkx00 := cell_keep (w := w7.drew) kx00 hB8; have fkx01 := cell_keep (w := w7.drew) kx01 hB8; have fka00 := cell_keep (w := w7.drew) ka00 hB8; have fka01 := cell_keep (w := w7.drew) ka01 hB8) | (go_at_call 39; refine (laws_eqEventGraph _ _ _ _ _ _ _ (Lst.now (w := w7.drew) hx0.lst hB8) hz0.lst).mono ?_; rintro e w9 ⟨rfl, hB9⟩; have ekx00 := cell_keep fkx00 hB9; have ekx01 := cell_keep fkx01 hB9; have eka00 := cell_keep fka00 hB9; have eka01 := cell_keep fka01 hB9))
      clear fkx00 fkx01 fka00 fka01 ekx00 ekx01 eka00 eka01
      have s8 := Below.size (w := w7.drew) hB8
      have dq8 : w7.drew.heap.size = w7.heap.size := rfl
      have s9 := hB9.size
      have hD : Below w7.heap.size w7 w9 := ((Below.refl _ w7).drew.trans hB8).trans (hB9.mono s8)
      replace ht := ht.trans (hD.mono ht.size)
      replace hx0 := hx0.now hD
      replace hx1 := hx1.now hD
      replace ka00 := cell_keep ka00 hD
      replace ka01 := cell_keep ka01 hD
      replace kx00 := cell_keep kx00 hD
      replace kx01 := cell_keep kx01 hD
      clear hD
      go_wp2_with fail
      refine (laws_toStringS _ _ _ ((b1.below ht (Nat.le_refl _)).more ht.size) hn1).mono ?_
      rintro e w10 ⟨z1, rfl, hz1, hB10⟩
      obtain ⟨Az1, cz1, rfl⟩ := hz1.shape
      have rz1 := Lib.hid hz1.lt
      have s10 := hB10.size
      replace ht := ht.trans (hB10.mono ht.size)
      replace hx0 := hx0.now hB10
      replace hx1 := hx1.now hB10
      replace ka00 := cell_keep ka00 hB10
      replace ka01 := cell_keep ka01 hB10
      replace kx00 := cell_keep kx00 hB10
      replace kx01 := cell_keep kx01 hB10
      go_wp2_with fail
      refine (laws_eqStringS _ _ _ _ _ hx1.lst hz1.lst).mono ?_
      rintro e w11 ⟨rfl, hB11⟩
      have s11 := hB11.size
      replace ht := ht.trans (hB11.mono ht.size)
      replace hx0 := hx0.now hB11
      replace hx1 := hx1.now hB11
      replace hz1 := hz1.now hB11
      replace ka00 := cell_keep ka00 hB11
      replace ka01 := cell_keep ka01 hB11
      replace kx00 := cell_keep kx00 hB11
      replace kx01 := cell_keep kx01 hB11
      clear hz1 rz1
      go_wp2_with fail
      go_ret
      exact ⟨rfl, (by repeat (first | exact Below.refl _ _ | refine Below.drew ?_ | refine Below.alloc ?_ (by first | omega | (simp; done) | (simp; omega) | (have q0 := ht.size; simp at q0; omega) | (have q0 := ht.size; simp at q0 ⊢; omega)) _ | refine Below.setCell ?_ (by first | omega | (simp; done) | (simp; omega) | (have q0 := ht.size; simp at q0; omega) | (have q0 := ht.size; simp at q0 ⊢; omega)) _ | refine Below.trans ?_ (Below.mono ht (by first | omega | (simp; done) | (simp; omega) | (have q0 := ht.size; simp at q0; omega) | (have q0 := ht.size; simp at q0 ⊢; omega)))))⟩

theorem PrintText_own : ownKnob Tryd.prog.godebug = none := by kernel_rfl
theorem PrintText_laidOut : laidOutB Tryd.prog = true := by kernel_rfl
theorem PrintText_env {W : World} (h : laidMetH Tryd.prog Rows.fnExactPrintTextRow.laid W) (hS : W.ShapedOpen Tryd.prog) : TabOf W := tabOf_laid h hS (by kernel_rfl) (by kernel_rfl)
set_option maxRecDepth 100000 in
theorem PrintText_contract (H : Type) (enc : TypeId × Value → H) (W : World) (base : Nat) (args : Array Value) (ds gs : List (DataW H)) (before : List MemPlace)
    (hval0 : ∀ (j : Nat) t v, Tryd.f6.params[j]? = some t → args[j]? = some v → Value.okWide Tryd.prog W .any base t v)
    (hW : DataW.Whole enc Tryd.prog Tryd.f6.params.toList Rows.fnExactPrintTextSpec.vars false W args.toList ds gs before) (hL : laidMetH Tryd.prog Rows.fnExactPrintTextRow.laid W) (hS : W.ShapedOpen Tryd.prog) :
    Calls Tryd.prog 6 args W fun e W' => ∃ v, e = .returned v ∧ Rows.fnExactPrintTextSpec.post enc Tryd.prog Tryd.f6 false true false false W args v W' := by
  have hval : ∀ (j : Nat) t v, Tryd.f6.params[j]? = some t → args[j]? = some v → Value.okWide Tryd.prog W .any base t v := hval0
  have hW' := hW
  obtain ⟨p, q, hA0, hV, rfl, hfz, hnd⟩ := hW
  have hA : DataW.TrodAll enc Tryd.prog W 0 (fun _ => true) true Tryd.f6.params.toList args.toList ds p := hA0
  rw [Tryd.params6] at hA hval
  obtain ⟨v0, vs0, d0, ds0, p0, q0, hargs, rfl, rfl, h0, r0⟩ := trodAll_cons hA
  obtain ⟨v1, vs1, d1, ds1, p1, q1, rfl, rfl, rfl, h1, r1⟩ := trodAll_cons r0
  obtain ⟨rfl, rfl, rfl⟩ := trodAll_nil r1
  obtain rfl : args = #[v0, v1] := by cases args; simp_all
  obtain ⟨rfl, rfl⟩ := trodVars_none hV
  have k0 := h0
  have lt0 : ∀ x ∈ p0, x.block < W.heap.size := by obtain ⟨m, hm⟩ := k0; exact DataW.trod_lt m _ _ _ hm
  have k1 := h1
  have lt1 : ∀ x ∈ p1, x.block < W.heap.size := by obtain ⟨m, hm⟩ := k1; exact DataW.trod_lt m _ _ _ hm
  obtain ⟨e0, s0, y0, u0, fl0, rfl, _, _, hy0, hu0⟩ := Joins.open_agg2 Tryd.underlying53 (by kernel_rfl) (by kernel_rfl) (hval 0 53 v0 rfl rfl) h0
  obtain ⟨g0, he0, _, w0⟩ := DataW.trod_int Tryd.underlying2 hy0
  simp only [List.cons.injEq, and_true] at he0
  subst he0
  obtain ⟨len0, z0, hR0⟩ := open_structs Tryd.underlying51 Tryd.underlying141 (by kernel_rfl) (by kernel_rfl) (by decide) (by intro j f hj; match j, hj with | 0, hj => (injection hj with hj; subst hj; exact Tryd.underlying2) | 1, hj => (injection hj with hj; subst hj; exact Tryd.underlying2) | 2, hj => (injection hj with hj; subst hj; exact Tryd.underlying2) | 3, hj => (injection hj with hj; subst hj; exact Tryd.underlying2) | n + 4, hj => simp at hj) (hu0)
  have a0 := rows_lst Place.cells Place.cells_len (fun i => ⟨z0 i 0, z0 i 1, z0 i 2, z0 i 3⟩) (by intro i j hj; match j, hj with | 0, _ => rfl | 1, _ => rfl | 2, _ => rfl | 3, _ => rfl | n + 4, hj => omega) hR0
  have o0 : Hid (∀ x ∈ (List.range len0).map fun i => (⟨z0 i 0, z0 i 1, z0 i 2, z0 i 3⟩ : Place), x.ok) := by
    intro x hx
    obtain ⟨i, hi, rfl⟩ := List.mem_map.1 hx
    have hi := List.mem_range.1 hi
    exact ⟨hR0.2.2 i 0 hi (by decide), hR0.2.2 i 1 hi (by decide), hR0.2.2 i 2 hi (by decide), hR0.2.2 i 3 hi (by decide)⟩
  have o0 : Hid (i64ok g0 ∧ ∀ x ∈ (List.range len0).map fun i => (⟨z0 i 0, z0 i 1, z0 i 2, z0 i 3⟩ : Place), x.ok) := ⟨wf_i64ok w0, o0⟩
  obtain ⟨A1, n1, c1, rfl⟩ := okWide_slice Tryd.underlying28 (hval 1 28 v1 rfl rfl)
  obtain ⟨fuel1, hf1⟩ := h1
  obtain ⟨l1, a1, o1⟩ := open_strs Tryd.underlying28 Tryd.underlying9 (by kernel_rfl) (show DataW.trod enc Tryd.prog W 0 (fun _ => true) true fuel1 28 [_] = _ by simpa [Value.cells] using hf1)
  clear hA0 hval0
  refine (law_PrintText _ _ _ _ _ W a0 a1 o0 o1 (PrintText_env hL hS)).mono fun e W' ⟨he, bel⟩ => ?_
  subst he
  exact ⟨_, rfl, _, _, _, [], _, [], hW', trodAll_mk1 (shut_bool Tryd.underlying4 _), (trodAll_cons_mk (Below.trod PrintText_laidOut (by kernel_rfl) (of_decide_eq_true (by kernel_rfl)) k0 bel lt0) (trodAll_cons_mk (Below.trod PrintText_laidOut (by kernel_rfl) (of_decide_eq_true (by kernel_rfl)) k1 bel lt1) trodAll_mk0)), rfl, bel.frame _, fun h => by cases h⟩
set_option maxRecDepth 100000 in
theorem PrintText_met (os : Os) : laidMetH Tryd.prog Rows.fnExactPrintTextRow.laid ((World.laidAll Tryd.prog os Rows.fnExactPrintTextRow.laid).forCall (fun _ _ => 0) ⟨#[], #[.agg #[.int .i64 0, .slice none 0 0], .slice none 0 0], []⟩).memory := by
  rw [Go.MakeChecks.laidMetH_plain _ _ _ (by kernel_rfl)]
  exact laidMet_laidAll _ (by kernel_rfl) (by kernel_rfl)
theorem PrintText_reads (os : Os) {H : Type} (enc : TypeId × Value → H) : ∃ places, DataW.whole enc Tryd.prog ((World.laidAll Tryd.prog os Rows.fnExactPrintTextRow.laid).forCall (fun _ _ => 0) ⟨#[], #[.agg #[.int .i64 0, .slice none 0 0], .slice none 0 0], []⟩).memory Tryd.f6.params.toList Rows.fnExactPrintTextSpec.vars false (#[.agg #[.int .i64 0, .slice none 0 0], .slice none 0 0] : Array Value).toList 8 = some ([.agg [.lit (.int .i64 0), .nil], .nil], [], places) := ⟨[], by kernel_rfl⟩
set_option maxRecDepth 100000 in
theorem PrintText_lifted (os : Os) (started : os.Started) (H : Type) (enc : TypeId × Value → H) (F : Stop.Interp) :
    ReturnsInHanded {} Tryd.checked os 6 .any ((OpenSpec.ofChange Rows.fnExactPrintTextSpec).preRow enc Tryd.prog Tryd.f6 Rows.fnExactPrintTextRow.domain false Rows.fnExactPrintTextRow.laid) (((OpenSpec.ofChange Rows.fnExactPrintTextSpec).at F).post enc Tryd.prog Tryd.f6 false true false false) := by
  obtain ⟨places, hx⟩ := PrintText_reads os enc
  refine returnsInHanded_of_row (C := Tryd.checked) (s := OpenSpec.ofChange Rows.fnExactPrintTextSpec) PrintText_own started (by kernel_rfl) Tryd.func6
    ⟨World.laidAll Tryd.prog os Rows.fnExactPrintTextRow.laid, fun _ _ => 0, ⟨#[], #[.agg #[.int .i64 0, .slice none 0 0], .slice none 0 0], []⟩, World.laidAll_os _ _ _, World.shaped_of_ZipB (by kernel_rfl) (by kernel_rfl), rfl, (Input.okWide_of_okWideB (by kernel_rfl)).2,
      OpenSpec.preRow_of_cond 8 hx (by kernel_rfl) (fun k hk => by cases hk) (by kernel_rfl) (PrintText_met os), by simp [Assume.holds]⟩ ?_
  intro W base args ds gs before hval hW _ _ _ hL hS _
  exact PrintText_contract H enc W base args ds gs before hval hW hL hS
theorem PrintText_over : Rows.FnExactPrintTextSaid :=
  OpenClaim.holds_of_cond 6 Tryd.f6 rfl rfl rfl rfl rfl rfl rfl ⟨rfl, rfl, rfl, rfl, rfl⟩ rfl rfl rfl rfl rfl (by kernel_rfl) Tryd.func6 (by kernel_rfl)
    (of_decide_eq_true (by kernel_rfl)) (by unfold Func.isWrapper; first | (rw [if_pos (by decide +kernel)]; kernel_rfl) | (rw [if_neg (by decide +kernel)]; exact ⟨rfl, rfl⟩))
    (fun os started H enc _ F => by rw [OpenClaim.pre_eq_preRow]; exact PrintText_lifted os started H enc F)
theorem PrintText_plain (f : FuncId) (fn : Func) (hf : Tryd.pinned.checked.prog.funcNamed "loop.example/g00941/laws.FnExactPrintText" = some f) (hfn : Tryd.pinned.checked.prog.funcs[f]? = some fn) :
    true = Tryd.pinned.checked.prog.looks [] ∧ ∀ (j : Nat) t, fn.params[j]? = some t → Tryd.pinned.checked.prog.wantsStandIn t = false := by
  obtain rfl : f = 6 := Option.some.inj ((show Tryd.prog.funcNamed "loop.example/g00941/laws.FnExactPrintText" = some 6 by kernel_rfl).symm.trans hf) |>.symm
  obtain rfl : fn = Tryd.f6 := (Option.some.inj (Tryd.func6.symm.trans hfn)).symm
  refine ⟨by kernel_rfl, fun j t ht => ?_⟩
  rw [Tryd.params6] at ht
  have hm : t = 53 ∨ t = 28 := by simpa using Array.mem_of_getElem? ht
  rcases hm with rfl | rfl
  · exact (show Tryd.prog.wantsStandIn 53 = false by kernel_rfl)
  · exact (show Tryd.prog.wantsStandIn 28 = false by kernel_rfl)
/-- The given statement: the tied card. -/
theorem PrintText_proved : Rows.FnExactPrintTextCardSaid :=
  Claim7.holds_tied_plain_at .later [] _ _ _ _ PrintText_over (fun _ h => by cases h) (by kernel_rfl) (fun _ h => by cases h) fnExactPrintText_row_tie rfl ⟨rfl, rfl⟩ (by kernel_rfl) rfl PrintText_plain (by kernel_rfl)
end Go.Proofs.YtlppfcamlggcnaaDoor
