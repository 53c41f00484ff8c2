/-
  Contracts of enabling and firing at any numbers.
-/
import Derived.Test.YtkbhbmoogkjafaaDrC
import Derived.Test.YtkbhbmoogkjafaaSeq
namespace Go.Proofs.Ytkbhbmoogkjafaa
open Go.RowKit
set_option linter.unusedVariables false
set_option linter.unusedSimpArgs false
set_option maxHeartbeats 2000000 in
set_option maxRecDepth 100000 in
theorem spec_l17EnabledW (v : Value) (ge : Int) (gp : List Place) (u : Value) (m : List Int) (ev : Int) (w : World) (h0 : Lst Place.cells 4 w w.heap.size v gp) (h1 : Lst intCell 1 w w.heap.size u m) (hlen : m.length = gp.length) :
    Calls Try.prog 124 #[.agg #[.int .i64 ge, v], u, .int .i64 ev] w fun r w' => ∃ b, r = .returned (.bool b) ∧ Below w.heap.size w w' := by
  obtain ⟨A, c, rfl⟩ := h0.shape
  obtain ⟨C, d, rfl⟩ := h1.shape
  have hl := h0.len_le
  have hlen1 : m.length ≤ gp.length := by omega
  have hlen2 : gp.length ≤ m.length := by omega
  clear hlen
  go_enter Try.func124, Try.ntmps124
  go_wp2
  have hW : Below w.heap.size w (w.alloc (.cells #[.int .i64 ge, .slice A gp.length c] 26)) := (Below.refl _ _).alloc (Nat.le_refl _) _; have hb0 : Blk (w.alloc (.cells #[.int .i64 ge, .slice A gp.length c] 26)) w.heap.size 26 #[.int .i64 ge, .slice A gp.length c] := Blk.new _ _ _; replace h0 := h0.now hW; replace h1 := h1.now hW; generalize (w.alloc (.cells #[.int .i64 ge, .slice A gp.length c] 26)) = W at *
  go_loopw [7] (fun i wr => ∃ k : Nat, k ≤ gp.length ∧ i = .int .i64 k ∧ Below W.heap.size W wr) (fun i _ => gp.length - (intOf i).toNat)
  case atStart => exact ⟨0, Nat.zero_le _, rfl, Below.refl _ _⟩
  case round =>
    obtain ⟨k, hk, rfl, hB⟩ := hrel
    obtain ⟨k0, k1⟩ := (hb0.now hB).c2
    by_cases hlt : k < gp.length
    · have hlt3 : k < m.length := by omega
      obtain ⟨b, off, hb1, hb, d0, d1, d2, d3⟩ := places_at (h0.now hB) k hlt
      obtain ⟨b2, off2, hb2, hb3, e0⟩ := ints_at (h1.now hB) k hlt3
      cases hb1
      cases hb2
      by_cases hd : gp[k].dst = ev
      · have hd1 : (gp[k].dst == ev) = true := by simp [hd]
        by_cases hz : m[k] = 0
        · have hz1 : (m[k] == 0) = true := by simp [hz]
          clear hd hz
          go_wp2
          go_ret
          exact ⟨_, rfl, hW.trans (hB.mono hW.size)⟩
        · have hz1 : (m[k] == 0) = false := by simpa using hz
          clear hd hz
          go_wp2
          go_roundw
          case rel => exact ⟨k + 1, hlt, by go_num, hB⟩
          case measure => simp [intOf]; omega
      · have hd1 : (gp[k].dst == ev) = false := by simpa using hd
        clear hd
        go_wp2
        go_roundw
        case rel => exact ⟨k + 1, hlt, by go_num, hB⟩
        case measure => simp [intOf]; omega
    · obtain rfl : k = gp.length := by omega
      go_wp2
      go_ret
      exact ⟨_, rfl, hW.trans (hB.mono hW.size)⟩
set_option maxHeartbeats 2000000 in
set_option maxRecDepth 100000 in
theorem spec_l17FireW (v : Value) (n : Nat) (gp : List Place) (u : Value) (m : List Int) (ev : Int) (w : World) (h0 : Lst Place.cells 4 w w.heap.size v gp) (h1 : Lst intCell 1 w w.heap.size u m) (hg : Hid (okGraph n gp = true)) (hl : Hid (m.length = gp.length)) (hm : Hid (∀ x ∈ m, -1000 ≤ x ∧ x ≤ 1000)) (hgl : gp.length ≤ 30) :
    Calls Try.prog 125 #[.agg #[.int .i64 n, v], u, .int .i64 ev] w (RetOwnB intCell 1 2 w (fireM gp m ev) (okMarking gp (fireM gp m ev))) := by
  obtain ⟨A, c, rfl⟩ := h0.shape
  obtain ⟨C, d, rfl⟩ := h1.shape
  have hlen1 : m.length ≤ gp.length := by have := hl.out; omega
  have hlen2 : gp.length ≤ m.length := by have := hl.out; omega
  have hz := Lib.hid (fireM_len gp m ev hl.out)
  go_enter Try.func125, Try.ntmps125
  go_wp2_with fail
  have hW : Below w.heap.size w (w.alloc (.cells #[.int .i64 n, .slice A gp.length c] 26)) := (Below.refl _ _).alloc (Nat.le_refl _) _; have hb0 : Blk (w.alloc (.cells #[.int .i64 n, .slice A gp.length c] 26)) w.heap.size 26 #[.int .i64 n, .slice A gp.length c] := Blk.new _ _ _; replace h0 := h0.now hW; replace h1 := h1.now hW; generalize (w.alloc (.cells #[.int .i64 n, .slice A gp.length c] 26)) = W at *
  refine (spec_l01Own _ _ _ h1 (by omega)).mono ?_
  rintro e w2 ⟨y, rfl, hO, hB⟩
  obtain ⟨Y, cy, rfl⟩ := hO.shape
  go_wp2
  go_loopw [9] (fun i wr => ∃ k : Nat, k ≤ gp.length ∧ i = .int .i64 k ∧ Own intCell 1 2 wr W.heap.size (.slice Y m.length cy) (mix (fireM gp m ev) m k) ∧ Below W.heap.size W wr) (fun i _ => gp.length - (intOf i).toNat)
  case atStart => exact ⟨0, Nat.zero_le _, rfl, by rw [mix_zero]; exact hO, hB⟩
  case round =>
    clear hO hB
    obtain ⟨k, hk, rfl, hO, hB⟩ := hrel
    have hs := hB.size
    obtain ⟨k0, k1⟩ := (hb0.now hB).c2
    by_cases hlt : k < gp.length
    · have hlt3 : k < m.length := by omega
      obtain ⟨b, off, hb1, hb, d0, d1, d2, d3⟩ := places_at h0 k hlt
      cases hb1
      replace d0 := cell_keep d0 hB
      replace d1 := cell_keep d1 hB
      have hlen : k < (mix (fireM gp m ev) m k).length := by rw [mix_len hz.out]; exact hlt3
      obtain ⟨g, c', hA, hgb, hgl, hfz, _⟩ := hO.at_ intCell_len k hlen
      obtain rfl : Y = some ⟨g, 0, none⟩ := by injection hA
      clear hA
      obtain ⟨_, _, _, e0⟩ := own_ints_at hO k hlen
      rw [mix_get hz.out k hlt3] at e0
      have hx := hm.out m[k] (List.getElem_mem hlt3)
      have hw0 := hb0.lt
      have hw1 : w.heap.size ≠ g := by omega
      have hw2 : g ≠ w.heap.size := by omega
      have hw3 : b ≠ g := by omega
      have hw4 : g ≠ b := by omega
      have hS : Hid (mix (fireM gp m ev) m (k + 1) = (mix (fireM gp m ev) m k).set k (fire1 gp[k] m[k] ev)) := by
        show _ = _
        rw [← mix_set hz.out k hlt3 (by rw [hz.out]; exact hlt3), fireM_get _ _ _ _ hlt hlt3]
      have hN : Hid (fire1 gp[k] m[k] ev = m[k] → mix (fireM gp m ev) m (k + 1) = mix (fireM gp m ev) m k) := by
        intro e
        rw [hS.out, e]
        have := mix_get hz.out k hlt3 hlen
        rw [← this, List.set_getElem_self]
      cases hd : (gp[k].dst == ev)
      · cases hsr : (gp[k].src == ev)
        · have hv : Hid (fire1 gp[k] m[k] ev = m[k]) := by show _ = _; simp only [beq_eq_false_iff_ne] at hd hsr; simp [fire1, hd, hsr]
          go_wp2
          go_roundw
          case rel => exact ⟨k + 1, hlt, by go_num, by rw [hN.out hv.out]; exact hO, hB⟩
          case measure => simp [intOf]; omega
        · have hv : Hid (fire1 gp[k] m[k] ev = m[k] + 1) := by show _ = _; simp only [beq_eq_false_iff_ne, beq_iff_eq] at hd hsr; simp [fire1, hd, hsr]
          go_wp2
          go_roundw
          case rel => exact ⟨k + 1, hlt, by go_num, by rw [hS.out, hv.out]; exact hO.set1 k hlen _, hB.setCell hgb _⟩
          case measure => simp [intOf]; omega
      · cases hsr : (gp[k].src == ev)
        · have hv : Hid (fire1 gp[k] m[k] ev = m[k] - 1) := by show _ = _; simp only [beq_eq_false_iff_ne, beq_iff_eq] at hd hsr; simp [fire1, hd, hsr]
          go_wp2
          go_roundw
          case rel => exact ⟨k + 1, hlt, by go_num, by rw [hS.out, hv.out]; exact hO.set1 k hlen _, hB.setCell hgb _⟩
          case measure => simp [intOf]; omega
        · have hv : Hid (fire1 gp[k] m[k] ev = m[k]) := by show _ = _; simp only [beq_eq_false_iff_ne, beq_iff_eq] at hd hsr; simp [fire1, hd, hsr]
          go_wp2
          go_roundw
          case rel =>
            have hO2 := (hO.set1 k hlen (m[k] - 1)).set1 k (by simpa using hlen) m[k]
            rw [List.set_set] at hO2
            exact ⟨k + 1, hlt, by go_num, by rw [hS.out, hv.out]; exact hO2, (hB.setCell hgb _).setCell hgb _⟩
          case measure => simp [intOf]; omega
    · obtain rfl : k = gp.length := by omega
      have hmx : Hid (mix (fireM gp m ev) m gp.length = fireM gp m ev) := by show _ = _; rw [← hl.out]; exact mix_all hz.out
      rw [hmx.out] at hO
      go_wp2_with fail
      refine (spec_IsMarking _ _ _ _ _ _ (h0.now hB) hO.lst).mono ?_
      rintro e w3 ⟨rfl, hB3⟩
      rw [hg.out, Bool.true_and]
      go_wp2
      go_ret2
      exact ⟨_, rfl, (hO.now hB3).rebase hW.size, hW.trans ((hB.trans (hB3.mono hs)).mono hW.size)⟩
theorem fireM_bd {gp : List Place} {m : List Int} {e B : Int} (h : ∀ x ∈ m, -B ≤ x ∧ x ≤ B) : ∀ x ∈ fireM gp m e, -(B + 1) ≤ x ∧ x ≤ B + 1 := by
  intro x hx
  unfold fireM at hx
  obtain ⟨i, hi, rfl⟩ := List.mem_iff_getElem.1 hx
  simp only [List.getElem_zipWith]
  have := h _ (List.getElem_mem (show i < m.length by simp at hi; omega))
  unfold fire1
  split <;> split <;> omega
end Go.Proofs.Ytkbhbmoogkjafaa
