/-
  The walks of the laws' own functions on lists of ratios: comparison and marks.
-/
import Derived.Test.YtkbhbmoogkjafaaGLaw
import Derived.Test.YtkbhbmoogkjafaaRatio
namespace Go.Proofs.Ytkbhbmoogkjafaa
open Go.RowKit
set_option linter.unusedVariables false
set_option linter.unusedSimpArgs false
section
variable {w w' : World} {B base : Nat} {e : TypeId}
theorem ratios_at {l : List Ratio} {A : Option Addr} {n c : Nat} (h : Lst Ratio.cells 2 w B (.slice A n c) l) (k : Nat) (hk : k < l.length) :
    ∃ b off, A = some ⟨b, off, none⟩ ∧ b < B ∧ w.cell? ⟨b, off + k * 2, none⟩ = some (.int .i64 l[k].num) ∧ w.cell? ⟨b, off + k * 2 + 1, none⟩ = some (.int .i64 l[k].den) := by
  obtain ⟨b, off, c', hv, hb, hc⟩ := h.at_ Ratio.cells_len k hk
  injection hv with hA _ _
  exact ⟨b, off, hA, hb, by simpa using hc 0 _ (by omega) rfl, by simpa [Nat.add_assoc] using hc 1 _ (by omega) rfl⟩
theorem own_ratios_at {l : List Ratio} {g n c : Nat} (h : Own Ratio.cells 2 e w base (.slice (some ⟨g, 0, none⟩) n c) l) (k : Nat) (hk : k < l.length) :
    base ≤ g ∧ g < w.heap.size ∧ (∀ j, w.frozen? ⟨g, j, none⟩ = false) ∧ w.cell? ⟨g, k * 2, none⟩ = some (.int .i64 l[k].num) ∧ w.cell? ⟨g, k * 2 + 1, none⟩ = some (.int .i64 l[k].den) := by
  obtain ⟨g', c', hv, hb, hg, hfz, hc⟩ := h.at_ Ratio.cells_len k hk
  injection hv with hA _ _
  obtain rfl : g = g' := by injection hA with hA; injection hA
  exact ⟨hb, hg, hfz, by simpa using hc 0 _ (by omega) rfl, by simpa using hc 1 _ (by omega) rfl⟩
theorem Own.setR {l : List Ratio} {g n c : Nat} (h : Own Ratio.cells 2 e w base (.slice (some ⟨g, 0, none⟩) n c) l) (k : Nat) (hk : k < l.length) (x : Ratio) :
    Own Ratio.cells 2 e ((w.setCell ⟨g, k * 2, none⟩ (.int .i64 x.num)).setCell ⟨g, k * 2 + 1, none⟩ (.int .i64 x.den)) base (.slice (some ⟨g, 0, none⟩) n c) (l.set k x) := by
  have h1 := h.put Ratio.cells_len k 0 hk (by omega) ⟨x.num, l[k].den⟩ (.int .i64 x.num) rfl (k * 2) (by omega)
  have h2 := h1.put Ratio.cells_len k 1 (by simpa using hk) (by omega) x (.int .i64 x.den) (by simp [Ratio.cells]) (k * 2 + 1) (by omega)
  simpa using h2
end

def markRatio (k : Int) (i : Nat) : Ratio := ⟨k + i * 2, k + i * 2 + 1⟩
def marksRatio (k : Int) (n : Nat) : List Ratio := (List.range n).map (markRatio k)
theorem marksRatio_len (k : Int) (n : Nat) : (marksRatio k n).length = n := by simp [marksRatio]
theorem marksRatio_get (k : Int) (j n : Nat) (h : j < (marksRatio k n).length) : (marksRatio k n)[j] = markRatio k j := by simp [marksRatio]
theorem marksRatio_step (k : Int) (j : Nat) (l : List Ratio) (h : j < l.length) : (marksRatio k j ++ l.drop j).set j (markRatio k j) = marksRatio k (j + 1) ++ l.drop (j + 1) := by
  rw [List.set_append_right _ _ (by simp [marksRatio_len])]
  have e : j - (marksRatio k j).length = 0 := by simp [marksRatio_len]
  rw [e, List.drop_eq_getElem_cons h, List.set_cons_zero]
  simp [marksRatio, List.range_succ]

set_option maxHeartbeats 400000 in
set_option maxRecDepth 100000 in
theorem laws_markRatioS (v : Value) (l : List Ratio) (k : Int) (base : Nat) (w : World) (h0 : Own Ratio.cells 2 63 w base v l) (h1 : l.length ≤ 1048576) (h2 : 0 ≤ k) (h3 : k ≤ 16777216) :
    Calls Try.prog 67 #[v, .int .i64 k] w fun e w' => e = .returned (.int .i64 (k + l.length * 2)) ∧ Own Ratio.cells 2 63 w' base v (marksRatio k l.length) ∧ w.grownBy w' v.ownBlock := by
  obtain ⟨A, c, rfl⟩ := h0.shape
  go_enter Try.func67, Try.ntmps67
  go_wp2
  go_loopw [1, 5] (fun q i wr => ∃ j : Nat, j ≤ l.length ∧ i = .int .i64 j ∧ q = .int .i64 (k + j * 2) ∧ Own Ratio.cells 2 63 wr base (.slice A l.length c) (marksRatio k j ++ l.drop j) ∧ w.grownBy wr (Value.slice A l.length c).ownBlock) (fun _ i _ => l.length - (intOf i).toNat)
  case atStart => exact ⟨0, Nat.zero_le _, rfl, by simp, by simpa [marksRatio] using h0, World.grownBy.refl _ _⟩
  case round =>
    obtain ⟨j, hj, rfl, rfl, hO, hG⟩ := hrel
    by_cases hlt : j < l.length
    · have hlen : j < (marksRatio k j ++ l.drop j).length := by simp [marksRatio_len]; omega
      obtain ⟨g, c', hA, hb, hg, hfz, hcell⟩ := hO.at_ Ratio.cells_len j hlen
      obtain rfl : A = some ⟨g, 0, none⟩ := by injection hA
      clear hA hcell
      obtain ⟨_, _, _, d0, d1⟩ := own_ratios_at hO j hlen
      go_wp2
      go_roundw
      case rel =>
        refine ⟨j + 1, hlt, by go_num, by go_num, ?_, (only_setCell (p := ⟨g, j * 2 + 1, none⟩) (only_setCell (p := ⟨g, j * 2, none⟩) hG (.inl rfl) _) (.inl rfl) _)⟩
        have h1 := hO.setR j hlen (markRatio k j)
        rw [marksRatio_step _ _ _ hlt] at h1
        exact h1
      case measure => simp [intOf]; omega
    · obtain rfl : j = l.length := by omega
      go_wp2
      go_ret
      exact ⟨rfl, by simpa using hO, hG⟩

set_option maxHeartbeats 400000 in
set_option maxRecDepth 100000 in
theorem laws_heldRatioS (v : Value) (n : Nat) (k : Int) (w : World) (B : Nat) (h0 : Lst Ratio.cells 2 w B v (marksRatio k n)) (h1 : n ≤ 1048576) (h2 : 0 ≤ k) (h3 : k ≤ 16777216) :
    Calls Try.prog 68 #[v, .int .i64 k] w fun e w' => e = .returned (.int .i64 (k + n * 2)) ∧ w = w' := by
  obtain ⟨A, c, rfl⟩ := h0.shape
  rw [marksRatio_len] at h0 ⊢
  go_enter Try.func68, Try.ntmps68
  go_wp2
  go_loop [1, 5] (fun q i => ∃ j : Nat, j ≤ n ∧ i = .int .i64 j ∧ q = .int .i64 (k + j * 2)) (fun _ i => n - (intOf i).toNat)
  case atStart => exact ⟨0, Nat.zero_le _, rfl, by simp⟩
  case round =>
    obtain ⟨j, hj, rfl, rfl⟩ := hrel
    by_cases hlt : j < n
    · obtain ⟨b, off, rfl, hb, d0, d1⟩ := ratios_at h0 j (by rw [marksRatio_len]; exact hlt)
      simp only [marksRatio_get, markRatio] at d0 d1
      have hq : ∀ x : Int, (x != x) = false := by simp
      go_wp2
      go_round
      case rel => exact ⟨j + 1, hlt, by go_num, by go_num⟩
      case measure => simp [intOf]; omega
    · obtain rfl : j = n := by omega
      go_wp2
      go_ret
      exact ⟨rfl, rfl⟩

set_option maxHeartbeats 400000 in
set_option maxRecDepth 100000 in
theorem laws_eqRatioR (x y : Ratio) (w : World) :
    Calls Try.prog 156 #[.agg #[.int .i64 x.num, .int .i64 x.den], .agg #[.int .i64 y.num, .int .i64 y.den]] w fun e w' => e = .returned (.bool (decide (x = y))) ∧ Below w.heap.size w w' := by
  obtain ⟨x0, x1⟩ := x
  obtain ⟨y0, y1⟩ := y
  by_cases h0 : x0 = y0
  · subst h0
    have e0 : (x0 != x0) = false := by simp
    by_cases h1 : x1 = y1
    · subst h1
      have e1 : (x1 != x1) = false := by simp
      go_enter Try.func156, Try.ntmps156
      go_wp2
      go_ret
      exact ⟨ret_bool (by simp), (by repeat (first | exact Below.refl _ _ | assumption | refine Below.drew ?_ | refine Below.alloc ?_ (by simp <;> omega) _ | refine Below.setCell ?_ (by simp <;> omega) _))⟩
    · have e1 : (x1 != y1) = true := by simpa using h1
      go_enter Try.func156, Try.ntmps156
      go_wp2
      go_ret
      exact ⟨ret_bool (by simp; intros; simp_all), (by repeat (first | exact Below.refl _ _ | assumption | refine Below.drew ?_ | refine Below.alloc ?_ (by simp <;> omega) _ | refine Below.setCell ?_ (by simp <;> omega) _))⟩
  · have e0 : (x0 != y0) = true := by simpa using h0
    go_enter Try.func156, Try.ntmps156
    go_wp2
    go_ret
    exact ⟨ret_bool (by simp; intros; simp_all), (by repeat (first | exact Below.refl _ _ | assumption | refine Below.drew ?_ | refine Below.alloc ?_ (by simp <;> omega) _ | refine Below.setCell ?_ (by simp <;> omega) _))⟩

set_option maxHeartbeats 400000 in
set_option maxRecDepth 100000 in
theorem laws_eqRatioS (v u : Value) (l m : List Ratio) (w : World) (h0 : Lst Ratio.cells 2 w w.heap.size v l) (h1 : Lst Ratio.cells 2 w w.heap.size u m) :
    Calls Try.prog 65 #[v, u] w fun e w' => e = .returned (.bool (decide (l = m))) ∧ Below w.heap.size w w' := by
  obtain ⟨A, c, rfl⟩ := h0.shape
  obtain ⟨C, d, rfl⟩ := h1.shape
  have hl := h0.len_le
  have hm := h1.len_le
  by_cases hlm : l.length = m.length
  · have hne : ((l.length : Int) != (m.length : Int)) = false := by rw [hlm]; simp
    have hlm1 : l.length ≤ m.length := by omega
    have hlm2 : m.length ≤ l.length := by omega
    clear hlm
    go_enter Try.func65, Try.ntmps65
    go_wp2
    go_loopw [5] (fun i wr => ∃ k : Nat, k ≤ l.length ∧ i = .int .i64 k ∧ Hid (l.take k = m.take k) ∧ Below w.heap.size w wr) (fun i _ => l.length - (intOf i).toNat)
    case atStart => exact ⟨0, Nat.zero_le _, rfl, rfl, Below.refl _ _⟩
    case round =>
      obtain ⟨k, hk, rfl, hE, hB⟩ := hrel
      by_cases hlt : k < l.length
      · have hlt' : k < m.length := by omega
        obtain ⟨b, off, rfl, hb, c0, c1⟩ := ratios_at h0 k hlt
        obtain ⟨b', off', rfl, hb', d0, d1⟩ := ratios_at h1 k hlt'
        obtain ⟨hc, hf⟩ := bcell hB
        by_cases heq : l[k] = m[k]
        · have hq : decide (l[k] = m[k]) = true := decide_eq_true heq
          have heq' : Hid (l[k] = m[k]) := heq
          clear heq
          go_wp2_with fail
          go_still_tail 8, (by kernel_rfl)
          change wpList _ _ _ _ _ wr.drew
          go_wp2_with (go_at_call 156; refine (laws_eqRatioR _ _ _).mono ?_; rintro e w1 ⟨rfl, hb1⟩)
          go_roundw
          case rel =>
            have hE' : Hid (l.take (k + 1) = m.take (k + 1)) := by have := hE.out; have h2 := heq'.out; show _ = _; rw [take_succ_get _ _ hlt, take_succ_get _ _ hlt', this, h2]
            have hB' := hB.drew.trans (hb1.mono hB.size)
            first | exact ⟨k + 1, hlt, by go_num, hE', hB'⟩ | ((repeat apply Exists.intro); exact ⟨⟨k + 1, hlt, by go_num, hE', hB'⟩, rfl⟩)
          case measure => simp [intOf]; omega
        · have hq : decide (l[k] = m[k]) = false := decide_eq_false heq
          have heq' : Hid (¬ l[k] = m[k]) := heq
          clear heq
          go_wp2_with fail
          go_still_tail 8, (by kernel_rfl)
          change wpList _ _ _ _ _ wr.drew
          go_wp2_with (go_at_call 156; refine (laws_eqRatioR _ _ _).mono ?_; rintro e w1 ⟨rfl, hb1⟩)
          go_ret
          exact ⟨ret_bool (decide_eq_false (by intro h; exact heq'.out (by simp [h]))).symm, hB.drew.trans (hb1.mono hB.size)⟩
      · obtain rfl : k = l.length := by omega
        go_wp2
        go_ret
        exact ⟨ret_bool (decide_eq_true (by have h := hE.out; rw [List.take_length] at h; rw [h]; exact (List.take_of_length_le (by omega)))).symm, hB⟩
  · have hne : ((l.length : Int) != (m.length : Int)) = true := by rw [bne_iff_ne]; omega
    go_enter Try.func65, Try.ntmps65
    go_wp2
    go_ret
    exact ⟨ret_bool (decide_eq_false (by intro h; exact hlm (by rw [h]))).symm, Below.refl _ _⟩
end Go.Proofs.Ytkbhbmoogkjafaa
