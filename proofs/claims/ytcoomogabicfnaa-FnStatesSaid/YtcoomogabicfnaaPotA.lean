/-
  The walks of IsTimePotential, the program's and the reference's.
-/
import Derived.Test.YtcoomogabicfnaaRatio
import Derived.Test.YtcoomogabicfnaaInts
import Derived.Test.YtcoomogabicfnaaMore
namespace Go.Proofs.Ytcoomogabicfnaa
open Go.RowKit
set_option linter.unusedVariables false
set_option linter.unusedSimpArgs false

/-- A valid ratio. -/
def ratioOk (a b : Int) : Bool := inB a (-1000000) 1000000 && inB b 1 1000000 && decide (Nat.gcd a.natAbs b.natAbs = 1)
theorem ratioOk_in {a b : Int} (h : ratioOk a b = true) : (-1000000 ≤ a ∧ a ≤ 1000000) ∧ (1 ≤ b ∧ b ≤ 1000000) := by
  unfold ratioOk at h
  simp only [Bool.and_eq_true, inB_iff] at h
  exact h.1
set_option maxHeartbeats 400000 in
set_option maxRecDepth 100000 in
theorem impl_isFinite (a : Int) (w : World) : Calls Try.prog 90 #[.int .i64 a] w fun e w' => e = .returned (.bool (inB a (-1000000) 1000000)) ∧ w = w' := by
  go_enter Try.func90, Try.ntmps90
  go_wp2_with (go_at_call 31; refine (impl_within _ _ _ _).mono ?_; rintro e w' ⟨rfl, rfl⟩)
  go_ret
  exact ⟨rfl, rfl⟩
set_option maxHeartbeats 400000 in
set_option maxRecDepth 100000 in
theorem impl_absOfI (a : Int) (w : World) (h1 : -2000000000 ≤ a) (h2 : a ≤ 2000000000) :
    Calls Try.prog 88 #[.int .i64 a] w fun e w' => e = .returned (.int .i64 (a.natAbs : Nat)) ∧ w = w' := by
  by_cases h : a < 0
  · go_enter Try.func88, Try.ntmps88
    go_wp2
    go_ret
    exact ⟨ret_int (by omega), rfl⟩
  · go_enter Try.func88, Try.ntmps88
    go_wp2
    go_ret
    exact ⟨ret_int (by omega), rfl⟩
set_option maxHeartbeats 400000 in
set_option maxRecDepth 100000 in
theorem impl_divisorOfQ (a b : Nat) (w : World) (ha : a ≤ 2000000000) (hb : b ≤ 2000000000) :
    Calls Try.prog 87 #[.int .i64 a, .int .i64 b] w fun e w' => e = .returned (.int .i64 (Nat.gcd a b : Nat)) ∧ ∃ n, w' = w.drewN n := by
  go_enter Try.func87, Try.ntmps87
  go_wp2
  go_loopw [0, 1] (fun s t wr => ∃ x y : Nat, s = .int .i64 x ∧ t = .int .i64 y ∧ Hid (Nat.gcd x y = Nat.gcd a b) ∧ x ≤ 2000000000 ∧ y ≤ 2000000000 ∧ Hid (∃ n, wr = w.drewN n)) (fun _ t _ => (intOf t).toNat)
  case atStart => exact ⟨a, b, rfl, rfl, rfl, ha, hb, ⟨0, rfl⟩⟩
  case round =>
    obtain ⟨x, y, rfl, rfl, hG, hx, hy, hB⟩ := hrel
    by_cases hpos : 0 < y
    · have hm1 : (y : Int) ≠ 0 := by omega
      have hm2 : ((y : Int) == 0) = false := by simp; omega
      have hm3 : y ≠ 0 := by omega
      have hm5 : (1 : Int) ≤ (y : Int) := by omega
      have hlt : Hid (x % y < y) := Nat.mod_lt _ hpos
      have hG' : Hid (Nat.gcd y (x % y) = Nat.gcd a b) := (gcd_step x y).trans hG.out
      go_wp2_with fail
      go_quiet (fail)
      have hB' : Hid (∃ n, wr.drewN nq = w.drewN n) := by obtain ⟨n, hn⟩ := hB.out; exact ⟨n + nq, by rw [hn, World.drewN_drewN]⟩
      go_wp2
      go_roundw
      case rel => exact ⟨y, x % y, rfl, by first | rfl | go_num, hG', hy, Nat.le_trans (Nat.mod_le _ _) hx, hB'⟩
      case measure => have := hlt.out; simp [intOf]; omega
    · obtain rfl : y = 0 := by omega
      have hz : Hid (x = Nat.gcd a b) := by show _ = _; rw [← hG.out]; simp
      go_wp2
      go_ret
      exact ⟨ret_int (by rw [hz.out]), hB.out⟩
theorem quiet_leftQ {P : Program} {f : FuncId} {args : Array Value} {w : World} {n : Nat} {v : Value}
    (h : Calls P f args (w.drewN n) fun e w' => e = .returned v ∧ ∃ m, w' = (w.drewN n).drewN m) : Calls P f args (w.drewN n) fun e w'' => e = .returned v ∧ ∃ m, w'' = w.drewN m :=
  h.mono fun _ _ ⟨he, m, hm⟩ => ⟨he, n + m, by rw [hm, World.drewN_drewN]⟩
set_option maxHeartbeats 1000000 in
set_option maxRecDepth 100000 in
theorem impl_IsRatio (a b : Int) (w : World) :
    Calls Try.prog 67 #[.agg #[.int .i64 a, .int .i64 b]] w fun e w' => e = .returned (.bool (ratioOk a b)) ∧ Below w.heap.size w w' := by
  have hW : Below w.heap.size w (w.alloc (.cells #[.int .i64 a, .int .i64 b] 37)) := (Below.refl _ _).alloc (Nat.le_refl _) _
  cases h1 : inB a (-1000000) 1000000
  · have hE : Hid (ratioOk a b = false) := by show _ = _; simp [ratioOk, h1]
    have c1 := Lib.hid (fun W => h1 ▸ impl_isFinite a W)
    clear h1
    go_enter Try.func67, Try.ntmps67
    go_wp2_with fail
    go_quiet ((go_at_call 90; exact quiet_left (c1.out _)))
    go_wp2
    go_ret
    exact ⟨ret_bool hE.out.symm, below_drewN hW _⟩
  · have ha := (inB_iff _ _ _).1 h1
    have c1 := Lib.hid (fun W => h1 ▸ impl_isFinite a W)
    have h1' := Lib.hid h1
    clear h1
    cases h2 : inB b 1 1000000
    · have hE : Hid (ratioOk a b = false) := by show _ = _; simp [ratioOk, h2]
      have c2 := Lib.hid (fun W => h2 ▸ impl_within b 1 1000000 W)
      clear h2
      go_enter Try.func67, Try.ntmps67
      go_wp2_with fail
      go_quiet ((first | (go_at_call 90; exact quiet_left (c1.out _)) | (go_at_call 31; exact quiet_left (c2.out _))))
      go_wp2
      go_ret
      exact ⟨ret_bool hE.out.symm, below_drewN hW _⟩
    · have hb := (inB_iff _ _ _).1 h2
      have c2 := Lib.hid (fun W => h2 ▸ impl_within b 1 1000000 W)
      obtain ⟨b1, rfl⟩ := Int.eq_ofNat_of_zero_le (show 0 ≤ b by omega)
      have hE : Hid (ratioOk a b1 = decide ((Nat.gcd a.natAbs b1 : Nat) = 1)) := by show _ = _; simp only [ratioOk, h1'.out, h2, Bool.true_and, Int.natAbs_natCast]
      clear h2
      have hx : a.natAbs ≤ 2000000000 := by omega
      have hy : b1 ≤ 2000000000 := by omega
      have hq : Hid ((((Nat.gcd a.natAbs b1 : Nat) : Int) == 1) = decide ((Nat.gcd a.natAbs b1 : Nat) = 1)) := by show _ = _; rw [Bool.eq_iff_iff]; simp; omega
      go_enter Try.func67, Try.ntmps67
      go_wp2_with fail
      go_quiet ((first | (go_at_call 90; exact quiet_left (c1.out _)) | (go_at_call 31; exact quiet_left (c2.out _)) | (go_at_call 88; exact quiet_left (impl_absOfI _ _ (by omega) (by omega))) | (go_at_call 87; exact quiet_leftQ (impl_divisorOfQ _ _ _ hx hy))))
      go_wp2
      go_ret
      exact ⟨ret_bool (by rw [hE.out]; first | exact hq.out | (rw [← hq.out]; rfl) | simp), below_drewN hW _⟩
end Go.Proofs.Ytcoomogabicfnaa
namespace Go.Proofs.Ytcoomogabicfnaa
open Go.RowKit
set_option linter.unusedVariables false
set_option linter.unusedSimpArgs false

def xAt (x : List Int) (i : Int) : Int := x.getD i.toNat 0
theorem xAt_nat (x : List Int) (q : Nat) (h : q < x.length) : xAt x q = x[q] := by simp [xAt, List.getD, List.getElem?_eq_getElem h]
/-- The weight of a place for the ratio a / b. -/
def wgt (a b : Int) (p : Place) : Int := b * p.delay - a * p.tokens
theorem wgt_le {a b : Int} {p : Place} (ha : -1000000 ≤ a ∧ a ≤ 1000000) (hb : 1 ≤ b ∧ b ≤ 1000000) (hd : 0 ≤ p.delay ∧ p.delay ≤ 1000) (ht : 0 ≤ p.tokens ∧ p.tokens ≤ 5) :
    (0 ≤ b * p.delay ∧ b * p.delay ≤ 1000000000) ∧ (-5000000 ≤ a * p.tokens ∧ a * p.tokens ≤ 5000000) := by
  refine ⟨⟨Int.mul_nonneg (by omega) hd.1, Int.le_trans (Int.mul_le_mul hb.2 hd.2 hd.1 (by omega)) (by omega)⟩, ?_⟩
  have h : p.tokens = 0 ∨ p.tokens = 1 ∨ p.tokens = 2 ∨ p.tokens = 3 ∨ p.tokens = 4 ∨ p.tokens = 5 := by omega
  rcases h with h | h | h | h | h | h <;> rw [h] <;> omega
/-- The place keeps the potential's bound. -/
def keeps (a b : Int) (x : List Int) (p : Place) : Bool := !decide (xAt x p.dst < xAt x p.src + wgt a b p)
def isPot (ge : Int) (gp : List Place) (a b : Int) (x : List Int) : Bool :=
  okGraph ge gp && ratioOk a b && decide ((x.length : Int) = ge) && allB x (-1000000) 1000000 && gp.all (keeps a b x)
theorem allB_mem {m : List Int} {lo hi : Int} (h : allB m lo hi = true) (k : Nat) (hk : k < m.length) : lo ≤ m[k] ∧ m[k] ≤ hi := by
  unfold allB at h
  rw [List.all_eq_true] at h
  have := h _ (List.getElem_mem hk)
  simpa [inB] using this
set_option maxHeartbeats 400000 in
set_option maxRecDepth 100000 in
theorem impl_placeWeight (p : Place) (a b : Int) (w : World) (ha : -1000000 ≤ a ∧ a ≤ 1000000) (hb : 1 ≤ b ∧ b ≤ 1000000) (hd : 0 ≤ p.delay ∧ p.delay ≤ 1000) (ht : 0 ≤ p.tokens ∧ p.tokens ≤ 5) :
    Calls Try.prog 93 #[.agg #[.int .i64 p.src, .int .i64 p.dst, .int .i64 p.delay, .int .i64 p.tokens], .agg #[.int .i64 a, .int .i64 b]] w fun e w' => e = .returned (.int .i64 (wgt a b p)) ∧ Below w.heap.size w w' := by
  obtain ⟨⟨p1, p2⟩, q1, q2⟩ := wgt_le ha hb hd ht
  have hE : Hid (wgt a b p = b * p.delay - a * p.tokens) := rfl
  go_enter Try.func93, Try.ntmps93
  go_wp2
  go_ret
  exact ⟨ret_int hE.out.symm, (by repeat (first | exact Below.refl _ _ | assumption | refine Below.drew ?_ | refine Below.alloc ?_ (by simp <;> omega) _ | refine Below.setCell ?_ (by simp <;> omega) _))⟩


end Go.Proofs.Ytcoomogabicfnaa
