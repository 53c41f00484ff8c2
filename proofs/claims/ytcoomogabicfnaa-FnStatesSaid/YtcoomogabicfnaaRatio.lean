/-
  The walks of greatest common divisors and of ratios in lowest terms, the program's and the reference's.
-/
import Derived.Test.YtcoomogabicfnaaCopy
import Derived.Test.YtcoomogabicfnaaCore
import Derived.IntWalk
namespace Go.Proofs.Ytcoomogabicfnaa
open Go.RowKit
set_option linter.unusedVariables false
set_option linter.unusedSimpArgs false

theorem gcd_step (x y : Nat) : Nat.gcd y (x % y) = Nat.gcd x y := by rw [Nat.gcd_comm y, ← Nat.gcd_rec, Nat.gcd_comm]
theorem tmod_nat (x y : Nat) : Int.tmod (x : Int) (y : Int) = ((x % y : Nat) : Int) := by rw [Int.tmod_eq_emod_of_nonneg (by omega)]; exact (Int.natCast_emod x y).symm
theorem tdiv_nat (x y : Nat) : Int.tdiv (x : Int) (y : Int) = ((x / y : Nat) : Int) := by rw [Int.tdiv_eq_ediv_of_nonneg (by omega)]; exact (Int.natCast_ediv x y).symm
/-- A fraction in lowest terms. -/
def lowN (a b : Nat) : Int := ((a / Nat.gcd a b : Nat) : Int)
def lowD (a b : Nat) : Int := ((b / Nat.gcd a b : Nat) : Int)
theorem info_impl_ratio : (Try.prog.info? 37).map (fun i => (i.zero, i.size, i.bytes)) = some (some (.agg #[.int .i64 0, .int .i64 0]), 2, 16) := by kernel_rfl
set_option maxHeartbeats 400000 in
set_option maxRecDepth 100000 in
theorem impl_divisorOf (a b : Nat) (w : World) (ha : a ≤ 2000000000) (hb : b ≤ 2000000000) :
    Calls Try.prog 87 #[.int .i64 a, .int .i64 b] w fun e w' => e = .returned (.int .i64 (Nat.gcd a b : Nat)) ∧ Below w.heap.size w w' := by
  go_enter Try.func87, Try.ntmps87
  go_wp2
  go_loopw [0, 1] (fun s t wr => ∃ x y : Nat, s = .int .i64 x ∧ t = .int .i64 y ∧ Hid (Nat.gcd x y = Nat.gcd a b) ∧ x ≤ 2000000000 ∧ y ≤ 2000000000 ∧ Below w.heap.size w wr) (fun _ t _ => (intOf t).toNat)
  case atStart => exact ⟨a, b, rfl, rfl, rfl, ha, hb, Below.refl _ _⟩
  case round =>
    obtain ⟨x, y, rfl, rfl, hG, hx, hy, hB⟩ := hrel
    by_cases hpos : 0 < y
    · have hm1 : (y : Int) ≠ 0 := by omega
      have hm2 : ((y : Int) == 0) = false := by simp; omega
      have hm3 : y ≠ 0 := by omega
      have hm5 : (1 : Int) ≤ (y : Int) := by omega
      have hlt : Hid (x % y < y) := Nat.mod_lt _ hpos
      have hG' : Hid (Nat.gcd y (x % y) = Nat.gcd a b) := (gcd_step x y).trans hG.out
      go_wp2_with fail
      go_quiet (fail)
      go_wp2
      go_roundw
      case rel => exact ⟨y, x % y, rfl, by first | rfl | go_num, hG', hy, Nat.le_trans (Nat.mod_le _ _) hx, below_drewN hB _⟩
      case measure => have := hlt.out; simp [intOf]; omega
    · obtain rfl : y = 0 := by omega
      have hz : Hid (x = Nat.gcd a b) := by show _ = _; rw [← hG.out]; simp
      go_wp2
      go_ret
      exact ⟨ret_int (by rw [hz.out]), hB⟩
set_option maxHeartbeats 400000 in
set_option maxRecDepth 100000 in
theorem impl_absOf (a : Nat) (w : World) (ha : a ≤ 2000000000) :
    Calls Try.prog 88 #[.int .i64 a] w fun e w' => e = .returned (.int .i64 a) ∧ w = w' := by
  have h : ¬ (a : Int) < 0 := by omega
  go_enter Try.func88, Try.ntmps88
  go_wp2
  go_ret
  exact ⟨rfl, rfl⟩
set_option maxHeartbeats 400000 in
set_option maxRecDepth 100000 in
theorem impl_ratioOf (a b : Nat) (w : World) (ha : a ≤ 2000000000) (hb : b ≤ 2000000000) (hpos : 0 < b) :
    Calls Try.prog 65 #[.int .i64 a, .int .i64 b] w fun e w' => e = .returned (.agg #[.int .i64 (lowN a b), .int .i64 (lowD a b)]) ∧ Below w.heap.size w w' := by
  have h1 : ¬ (b : Int) < 0 := by omega
  have hg1 : 0 < Nat.gcd a b := Nat.gcd_pos_of_pos_right _ hpos
  have hg2 : Nat.gcd a b ≤ 2000000000 := Nat.le_trans (Nat.gcd_le_right _ hpos) hb
  have hN := Lib.hid (show lowN a b = ((a / Nat.gcd a b : Nat) : Int) from rfl)
  have hD := Lib.hid (show lowD a b = ((b / Nat.gcd a b : Nat) : Int) from rfl)
  go_enter Try.func65, Try.ntmps65
  go_wp2_with (go_at_call 88; refine (impl_absOf _ _ ha).mono ?_; rintro e w' ⟨rfl, rfl⟩)
  refine (impl_divisorOf _ _ _ ha hb).mono ?_
  rintro e w1 ⟨rfl, hB⟩
  obtain ⟨g, hg⟩ : ∃ g, Nat.gcd a b = g := ⟨_, rfl⟩
  rw [hg] at hN hD hg1 hg2
  rw [hg]
  clear hg
  have hb0 := (Blk.new w 37 #[.int .i64 0, .int .i64 0]).now hB
  obtain ⟨k0, k1⟩ := hb0.c2
  obtain ⟨z0, z1⟩ := hb0.f2
  have hW : Below w.heap.size w w1 := ((Below.refl _ _).alloc (Nat.le_refl _) _).trans (hB.mono (by simp))
  have hm1 : (g : Int) ≠ 0 := by omega
  have hm2 : ((g : Int) == 0) = false := by simp; omega
  have hm3 : g ≠ 0 := by omega
  have hm5 : (1 : Int) ≤ (g : Int) := by omega
  have ha0 : (0 : Int) ≤ (a : Int) := by omega
  have hb1 : (0 : Int) ≤ (b : Int) := by omega
  clear hB hb0
  have hN' : Hid (wrap64 ((a : Int) / (g : Int)) = lowN a b) := by
    show _ = _
    rw [hN.out, ← Int.natCast_ediv]
    have q0 := Nat.div_le_self a g
    generalize a / g = q at *
    exact IntWalk.wrap64_in _ (by omega)
  have hD' : Hid (wrap64 ((b : Int) / (g : Int)) = lowD a b) := by
    show _ = _
    rw [hD.out, ← Int.natCast_ediv]
    have q0 := Nat.div_le_self b g
    generalize b / g = q at *
    exact IntWalk.wrap64_in _ (by omega)
  go_wp2_with fail
  go_region
  rw [hN'.out, hD'.out]
  go_wp2
  exact bodyPost_ret (v := .agg #[.int .i64 (lowN a b), .int .i64 (lowD a b)]) (by simp [results, Try.results65, go_sem, k0, k1]) rfl ⟨rfl, ((hW.setCell (by simp) _).setCell (by simp) _).drew⟩
end Go.Proofs.Ytcoomogabicfnaa
