/-
  The walk of slices.Reverse on numbers.
-/
import Derived.Test.YtcoomogabicfnaaMore
import Derived.Test.YtcoomogabicfnaaCore
import Derived.IntWalk
namespace Go.Proofs.Ytcoomogabicfnaa
open Go.RowKit
set_option linter.unusedVariables false
set_option linter.unusedSimpArgs false
/-- The first i and the last i have changed places. -/
def revK (l : List Int) (i : Nat) : List Int := (List.range l.length).map fun q => if q < i ∨ l.length - 1 - q < i then l.getD (l.length - 1 - q) 0 else l.getD q 0
theorem revK_len (l : List Int) (i : Nat) : (revK l i).length = l.length := by simp [revK]
theorem revK_zero (l : List Int) : revK l 0 = l := by
  refine List.ext_getElem (by simp [revK]) fun q h1 h2 => ?_
  simp [revK, List.getD, List.getElem?_eq_getElem h2]
theorem revK_get (l : List Int) (i q : Nat) (h : q < (revK l i).length) (hq : ¬ q < i) (hq2 : ¬ l.length - 1 - q < i) : (revK l i)[q] = l[q]'(by simpa [revK] using h) := by
  have h2 : q < l.length := by simpa [revK] using h
  simp [revK, hq, hq2, List.getD, List.getElem?_eq_getElem h2]
theorem revK_step (l : List Int) (i : Nat) (h : 2 * i + 1 < l.length) : ((revK l i).set i (l[l.length - 1 - i]'(by omega))).set (l.length - 1 - i) (l[i]'(by omega)) = revK l (i + 1) := by
  refine List.ext_getElem (by simp [revK]) fun q h1 h2 => ?_
  have hq : q < l.length := by simpa [revK] using h2
  rw [List.getElem_set]
  by_cases e1 : l.length - 1 - i = q
  · subst e1
    simp only [if_true, revK, List.getElem_map, List.getElem_range]
    rw [if_pos (by omega)]
    have e : l.length - 1 - (l.length - 1 - i) = i := by omega
    rw [e]
    simp [List.getD, List.getElem?_eq_getElem (show i < l.length by omega)]
  · rw [if_neg e1, List.getElem_set]
    by_cases e2 : i = q
    · subst e2
      simp only [if_true, revK, List.getElem_map, List.getElem_range]
      rw [if_pos (by omega)]
      simp [List.getD, List.getElem?_eq_getElem (show l.length - 1 - i < l.length by omega)]
    · rw [if_neg e2]
      simp only [revK, List.getElem_map, List.getElem_range]
      by_cases h3 : q < i ∨ l.length - 1 - q < i
      · rw [if_pos h3, if_pos (by omega)]
      · rw [if_neg h3, if_neg (by omega)]
theorem revK_all (l : List Int) (i : Nat) (h : l.length ≤ 2 * i + 1) : revK l i = l.reverse := by
  refine List.ext_getElem (by simp [revK]) fun q h1 h2 => ?_
  have hq : q < l.length := by simpa [revK] using h1
  rw [List.getElem_reverse]
  simp only [revK, List.getElem_map, List.getElem_range]
  by_cases h3 : q < i ∨ l.length - 1 - q < i
  · rw [if_pos h3]; simp [List.getD, List.getElem?_eq_getElem (show l.length - 1 - q < l.length by omega)]
  · rw [if_neg h3]
    have e : l.length - 1 - q = q := by omega
    simp [e, List.getD, List.getElem?_eq_getElem hq]
theorem grown_transR {a b c : World} {r : Option Nat} (h1 : a.grownBy b r) (h2 : b.grownBy c r) : a.grownBy c r :=
  ⟨h2.os.trans h1.os, h2.tape.trans h1.tape, h2.output.trans h1.output, Nat.le_trans h1.size h2.size, fun k hk hne => (h2.block k (Nat.lt_of_lt_of_le hk h1.size) hne).trans (h1.block k hk hne)⟩
theorem grown_setC' (w : World) (p : Addr) (u : Value) : w.grownBy (w.setCell p u) (some p.block) :=
  ⟨rfl, rfl, rfl, by simp [World.setCell], fun i hi hne => Below.heap_setCell w p u i (by rintro rfl; exact hne rfl)⟩
theorem grown_drew' (w : World) (r : Option Nat) : w.grownBy w.drew r := ⟨rfl, rfl, rfl, Nat.le_refl _, fun _ _ _ => rfl⟩
set_option maxHeartbeats 4000000 in
set_option maxRecDepth 100000 in
theorem slices_Reverse (v : Value) (l : List Int) (base : Nat) (w : World) (h0 : Own intCell 1 2 w base v l) (hl : l.length ≤ 1000000) :
    Calls Try.prog 94 #[v] w fun e w' => e = .returned (.tuple #[]) ∧ Own intCell 1 2 w' base v l.reverse ∧ w.grownBy w' v.ownBlock := by
  obtain ⟨A, c, rfl⟩ := h0.shape
  have hz := revK_zero l
  go_enter Try.func94, Try.ntmps94
  go_wp2
  go_loopw [2, 3] (fun p q wr => ∃ i : Nat, (i : Int) ≤ (l.length : Int) - i ∧ p = .int .i64 i ∧ q = .int .i64 ((l.length : Int) - 1 - i) ∧ Own intCell 1 2 wr base (.slice A l.length c) (revK l i) ∧ w.grownBy wr (Value.slice A l.length c).ownBlock) (fun p _ _ => l.length - (intOf p).toNat)
  case atStart => exact ⟨0, by omega, rfl, by simp, by rw [hz]; exact h0, World.grownBy.refl _ _⟩
  case round =>
    obtain ⟨i, hi, rfl, rfl, hO, hG⟩ := hrel
    by_cases hlt : 2 * i + 1 < l.length
    · have hil : i < (revK l i).length := by rw [revK_len]; omega
      have hjl : l.length - 1 - i < (revK l i).length := by rw [revK_len]; omega
      obtain ⟨g, c', hv, -⟩ := hO.at_ intCell_len i hil
      rw [revK_len] at hv
      obtain rfl : A = some ⟨g, 0, none⟩ := by injection hv
      clear hv
      obtain ⟨_, hol, hof, ci⟩ := own_ints_at hO i hil
      obtain ⟨_, _, _, cj⟩ := own_ints_at hO (l.length - 1 - i) hjl
      rw [revK_get l i i hil (by omega) (by omega)] at ci
      rw [revK_get l i _ hjl (by omega) (by omega)] at cj
      obtain ⟨j, hj⟩ : ∃ j, l.length - 1 - i = j := ⟨_, rfl⟩
      have hji : (l.length : Int) - 1 - i = (j : Int) := by omega
      have hst := Lib.hid (revK_step l i hlt)
      simp only [hj] at cj hst hjl
      rw [hji]
      have j1 : (0 : Int) ≤ (i : Int) := by omega
      have j2 : (i : Int) < (l.length : Int) := by omega
      have j3 : (0 : Int) ≤ (j : Int) := by omega
      have j4 : (j : Int) < (l.length : Int) := by omega
      have j5 : (i : Int) < (j : Int) := by omega
      have hP1 := hO.set1 i hil (l[l.length - 1 - i]'(by omega))
      have hP2 := hP1.set1 j (by simpa using hjl) (l[i]'(by omega))
      simp only [hj] at hP1 hP2
      rw [hst.out] at hP2
      obtain ⟨x, hx⟩ : ∃ x, l[i]'(by omega) = x := ⟨_, rfl⟩
      obtain ⟨y, hy⟩ : ∃ y, l[j]'(by omega) = y := ⟨_, rfl⟩
      rw [hx] at ci hP2
      rw [hy] at cj hP2
      have hP2' := Lib.hid hP2
      have hG2' := Lib.hid (grown_transR (grown_transR hG (grown_setC' wr ⟨g, i, none⟩ (.int .i64 y))) (grown_setC' (wr.setCell ⟨g, i, none⟩ (.int .i64 y)) ⟨g, j, none⟩ (.int .i64 x)))
      have w1 : IntKind.i64.wrap ((i : Int) + 1) = (i : Int) + 1 := IntWalk.i64_in _ (by omega)
      have w2 : IntKind.i64.wrap ((j : Int) - 1) = (j : Int) - 1 := IntWalk.i64_in _ (by omega)
      clear hP1 hP2 hO hG hil hjl hst hx hy
      go_wp2_with fail
      go_region
      go_wp2
      go_roundw
      case rel => exact ⟨i + 1, by omega, by go_num, by rw [show (l.length : Int) - 1 - ((i + 1 : Nat) : Int) = (j : Int) - 1 by omega], hP2'.out.now (Below.drew (Below.refl _ _)), grown_transR hG2'.out (grown_drew' _ _)⟩
      case measure => simp [intOf]; omega
    · have hfin := revK_all l i (by omega)
      rw [hfin] at hO
      have j5 : ¬ (i : Int) < (l.length : Int) - 1 - i := by omega
      go_wp2
      go_end0
      exact ⟨rfl, hO, hG⟩
end Go.Proofs.Ytcoomogabicfnaa
