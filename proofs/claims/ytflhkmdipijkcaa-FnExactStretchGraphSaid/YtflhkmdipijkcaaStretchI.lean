/-
  The walk of StretchGraph, the program's.
-/
import Derived.Test.YtflhkmdipijkcaaStretch
namespace Go.Proofs.Ytflhkmdipijkcaa
open Go.RowKit
set_option linter.unusedVariables false
set_option linter.unusedSimpArgs false

set_option maxHeartbeats 4000000 in
set_option maxRecDepth 100000 in
theorem impl_StretchGraph (v : Value) (ge : Int) (gp : List Place) (n : Int) (w : World) (h0 : Lst Place.cells 4 w w.heap.size v gp) :
    Calls Try.prog 16 #[.agg #[.int .i64 ge, v], .int .i64 n] w (RetGI 62 w (stretchF ge gp n).1 (stretchF ge gp n).2.1 (stretchF ge gp n).2.2) := by
  obtain ⟨A, c, rfl⟩ := h0.shape
  have hl := h0.len_le
  cases hg : okGraph ge gp
  · have hE : stretchF ge gp n = (0, [], 1) := by simp [stretchF, hg]
    rw [hE]
    go_enter Try.func16, Try.ntmps16
    go_wp2_with (go_at_call 32; refine (impl_IsEventGraph _ _ _ _ ((h0.alloc _).alloc _)).mono ?_; rintro e w1 ⟨rfl, hB⟩; obtain ⟨hc1, hf1⟩ := bcell hB)
    refine bodyPost_ret (v := .tuple #[.agg #[.int .i64 0, .slice none 0 0], .int .i64 1]) (by simp [results, Try.results16, go_sem, hc1]) rfl ⟨_, rfl, Own.nil, (by repeat (first | exact Below.refl _ _ | refine Below.drew ?_ | refine Below.alloc ?_ (by first | omega | (simp; done) | (simp; omega) | (have q0 := hB.size; simp at q0; omega) | (have q0 := hB.size; simp at q0 ⊢; omega)) _ | refine Below.setCell ?_ (by first | omega | (simp; done) | (simp; omega) | (have q0 := hB.size; simp at q0; omega) | (have q0 := hB.size; simp at q0 ⊢; omega)) _ | refine Below.trans ?_ (Below.mono hB (by first | omega | (simp; done) | (simp; omega) | (have q0 := hB.size; simp at q0; omega) | (have q0 := hB.size; simp at q0 ⊢; omega)))))⟩
  · cases hi : inB n 1 1000
    · have hE : stretchF ge gp n = (0, [], 2) := by simp [stretchF, hg, hi]
      rw [hE]
      go_enter Try.func16, Try.ntmps16
      go_wp2_with fail
      refine (impl_IsEventGraph _ _ _ _ ((h0.alloc _).alloc _)).mono ?_
      rintro e w1 ⟨rfl, hB⟩
      obtain ⟨hc1, hf1⟩ := bcell hB
      go_wp2_with (go_at_call 40; refine (impl_within _ _ _ _).mono ?_; rintro e w2 ⟨rfl, rfl⟩)
      refine bodyPost_ret (v := .tuple #[.agg #[.int .i64 0, .slice none 0 0], .int .i64 2]) (by simp [results, Try.results16, go_sem, hc1]) rfl ⟨_, rfl, Own.nil, (by repeat (first | exact Below.refl _ _ | refine Below.drew ?_ | refine Below.alloc ?_ (by first | omega | (simp; done) | (simp; omega) | (have q0 := hB.size; simp at q0; omega) | (have q0 := hB.size; simp at q0 ⊢; omega)) _ | refine Below.setCell ?_ (by first | omega | (simp; done) | (simp; omega) | (have q0 := hB.size; simp at q0; omega) | (have q0 := hB.size; simp at q0 ⊢; omega)) _ | refine Below.trans ?_ (Below.mono hB (by first | omega | (simp; done) | (simp; omega) | (have q0 := hB.size; simp at q0; omega) | (have q0 := hB.size; simp at q0 ⊢; omega)))))⟩
    · have hE : stretchF ge gp n = checkedF ge (gp.map (Place.long n)) := by simp [stretchF, hg, hi]
      have h30 := okGraph_len hg
      rw [hE]
      go_enter Try.func16, Try.ntmps16
      go_wp2_with fail
      refine (impl_IsEventGraph _ _ _ _ ((h0.alloc _).alloc _)).mono ?_
      rintro e w1 ⟨rfl, hB⟩
      have k0 : w1.cell? ⟨w.heap.size, 0, none⟩ = some (.int .i64 ge) := cell_keep (by simp) hB
      have k1 : w1.cell? ⟨w.heap.size, 1, none⟩ = some (.slice A gp.length c) := cell_keep (by simp) hB
      have r0 : w1.cell? ⟨w.heap.size + 1, 0, none⟩ = some (.int .i64 0) := cell_keep (by simp) hB
      have r1 : w1.cell? ⟨w.heap.size + 1, 1, none⟩ = some (.slice none 0 0) := cell_keep (by simp) hB
      have z0 : w1.frozen? ⟨w.heap.size + 1, 0, none⟩ = false := (hB.frozen (p := ⟨w.heap.size + 1, 0, none⟩) (by simp)).trans (by simp)
      have z1 : w1.frozen? ⟨w.heap.size + 1, 1, none⟩ = false := (hB.frozen (p := ⟨w.heap.size + 1, 1, none⟩) (by simp)).trans (by simp)
      have hBt : Below w.heap.size w w1 := (by repeat (first | exact Below.refl _ _ | refine Below.drew ?_ | refine Below.alloc ?_ (by first | omega | (simp; done) | (simp; omega) | (have q0 := hB.size; simp at q0; omega) | (have q0 := hB.size; simp at q0 ⊢; omega)) _ | refine Below.setCell ?_ (by first | omega | (simp; done) | (simp; omega) | (have q0 := hB.size; simp at q0; omega) | (have q0 := hB.size; simp at q0 ⊢; omega)) _ | refine Below.trans ?_ (Below.mono hB (by first | omega | (simp; done) | (simp; omega) | (have q0 := hB.size; simp at q0; omega) | (have q0 := hB.size; simp at q0 ⊢; omega)))))
      have hs1 : w.heap.size + 1 < w1.heap.size := by have := hB.size; simp at this; omega
      clear hB
      go_wp2_with (go_at_call 40; refine (impl_within _ _ _ _).mono ?_; rintro e w2 ⟨rfl, rfl⟩)
      refine (impl_cloneGraph _ _ _ _ (h0.now hBt) (by omega)).mono ?_
      rintro e w2 ⟨v2, rfl, hO, hB2⟩
      obtain ⟨A2, c2, rfl⟩ := hO.shape
      have hlt2 := Lib.hid hO.lt
      have k0a := cell_keep k0 hB2
      have k1a := cell_keep k1 hB2
      have hs2 := hB2.size
      go_wp2
      clear k0a k1a
      have hin := (inB_iff _ _ _).1 hi
      have hgp := Lib.hid (fun x hx => okGraph_place (p := x) hg hx)
      have hg' := Lib.hid hg
      clear hg hi
      go_loopw [7, 21] (fun _ i wr => ∃ k : Nat, k ≤ gp.length ∧ i = .int .i64 k ∧ Own Place.cells 4 62 wr w1.heap.size (.slice A2 gp.length c2) ((gp.take k).map (Place.long n) ++ gp.drop k) ∧ Below w1.heap.size w1 wr ∧ wr.cell? ⟨w2.heap.size, 0, none⟩ = some (.int .i64 ge) ∧ wr.cell? ⟨w2.heap.size, 1, none⟩ = some (.slice A2 gp.length c2)) (fun _ i _ => gp.length - (intOf i).toNat)
      case atStart => exact ⟨0, Nat.zero_le _, rfl, by simpa using hO.alloc _, hB2.alloc hs2 _, by simp, by simp⟩
      case round =>
        obtain ⟨k, hk, rfl, hO3, hB3, e0, e1⟩ := hrel
        have hs3 := hB3.size
        by_cases hlt : k < gp.length
        · have hlen : k < ((gp.take k).map (Place.long n) ++ gp.drop k).length := by rw [part_len _ _ _ hk]; exact hlt
          obtain ⟨g, c', hA, hgb, hgl, hfz, _⟩ := hO3.at_ Place.cells_len k hlen
          obtain rfl : A2 = some ⟨g, 0, none⟩ := by injection hA
          clear hA
          have hg2 := hlt2.out g rfl
          have hq0 := part_get (Place.long n) gp k hlt hlen
          obtain ⟨_, _, _, q0, q1, q2, q3⟩ := own_places_at hO3 k hlen
          rw [hq0] at q0 q1 q2 q3
          have hq0 := Lib.hid hq0
          have hp := hgp.out gp[k] (List.getElem_mem hlt)
          have hd0 := hp.2.2.1
          have hm0 : 0 ≤ gp[k].delay * n := Int.mul_nonneg hd0.1 (by omega)
          have hm1 : gp[k].delay * n ≤ 1000 * 1000 := Int.mul_le_mul hd0.2 hin.2 (by omega) (by omega)
          have hw2 : w2.heap.size ≠ g := by omega
          have hw3 : g ≠ w2.heap.size := by omega
          go_wp2
          go_roundw
          case rel =>
            have h1 := hO3.setP2 k hlen (gp[k].delay * n)
            rw [hq0.out, show (⟨gp[k].src, gp[k].dst, gp[k].delay * n, gp[k].tokens⟩ : Place) = Place.long n gp[k] by simp [Place.long, Int.mul_comm], part_set (Place.long n) gp k hlt] at h1
            exact ⟨k + 1, hlt, by go_num, h1, hB3.setCell hgb _, (World.cell?_setCell_other _ _ _ _ (by simp <;> omega)).trans e0, (World.cell?_setCell_other _ _ _ _ (by simp <;> omega)).trans e1⟩
          case measure => simp [intOf]; omega
        · obtain rfl : k = gp.length := by omega
          rw [List.take_length, List.drop_length, List.append_nil] at hO3
          have r0' : wr.cell? ⟨w.heap.size + 1, 0, none⟩ = some (.int .i64 0) := (hB3.cell (p := ⟨w.heap.size + 1, 0, none⟩) hs1).trans r0
          have r1' : wr.cell? ⟨w.heap.size + 1, 1, none⟩ = some (.slice none 0 0) := (hB3.cell (p := ⟨w.heap.size + 1, 1, none⟩) hs1).trans r1
          have z0' : wr.frozen? ⟨w.heap.size + 1, 0, none⟩ = false := (hB3.frozen (p := ⟨w.heap.size + 1, 0, none⟩) hs1).trans z0
          have z1' : wr.frozen? ⟨w.heap.size + 1, 1, none⟩ = false := (hB3.frozen (p := ⟨w.heap.size + 1, 1, none⟩) hs1).trans z1
          go_wp2_with fail
          refine (impl_checkedGraph _ _ _ w1.heap.size _ hO3).mono ?_
          rintro e w4 ⟨u, rfl, hO5, hB5⟩
          obtain ⟨A5, c5, rfl⟩ := hO5.shape
          generalize checkedF ge (gp.map (Place.long n)) = T at *
          replace r0' := cell_keep r0' hB5
          replace r1' := cell_keep r1' hB5
          replace z0' := (hB5.frozen (p := ⟨w.heap.size + 1, 0, none⟩) (by show w.heap.size + 1 < _; omega)).trans z0'
          replace z1' := (hB5.frozen (p := ⟨w.heap.size + 1, 1, none⟩) (by show w.heap.size + 1 < _; omega)).trans z1'
          go_wp2
          refine bodyPost_ret (v := .tuple #[.agg #[.int .i64 T.1, .slice A5 T.2.1.length c5], .int .i64 T.2.2]) (by simp [results, Try.results16, go_sem, r0', r1']) rfl ⟨_, rfl, ?_, ?_⟩
          · exact ((hO5.far (p := ⟨w.heap.size + 1, 0, none⟩) hs1 _).far (p := ⟨w.heap.size + 1, 1, none⟩) hs1 _).rebase (by omega)
          · exact (((hBt.trans (hB3.mono (by omega))).trans (hB5.mono (by omega))).setCell (by simp) _).setCell (by simp) _
end Go.Proofs.Ytflhkmdipijkcaa
