/-
  The walks of CycleMean: ratios of any sign, Karp's table.
-/
import Derived.Test.YtcoomogabicfnaaVal
import Derived.Test.YtcoomogabicfnaaLoad
import Derived.Test.YtcoomogabicfnaaPotA
import Derived.Test.YtcoomogabicfnaaKarp
namespace Go.Proofs.Ytcoomogabicfnaa
open Go.RowKit
set_option linter.unusedVariables false
set_option linter.unusedSimpArgs false
/-- Lowest terms, of any sign. -/
def rzN (x : Int) (d : Nat) : Int := if x < 0 then - lowN x.natAbs d else lowN x.natAbs d
def rzD (x : Int) (d : Nat) : Int := lowD x.natAbs d
theorem mul_bdS {a d : Int} (ha : -2000000000 ≤ a ∧ a ≤ 2000000000) (hd : 0 ≤ d ∧ d ≤ 2000000000) : -4000000000000000000 ≤ a * d ∧ a * d ≤ 4000000000000000000 := by
  have h1 := Int.mul_le_mul_of_nonneg_right ha.2 hd.1
  have h2 := Int.mul_le_mul_of_nonneg_right ha.1 hd.1
  omega
set_option maxHeartbeats 1000000 in
set_option maxRecDepth 100000 in
theorem impl_ratioOfZ (x : Int) (d : Nat) (w : World) (hx : -2000000000 ≤ x ∧ x ≤ 2000000000) (hd : d ≤ 2000000000) (hpos : 0 < d) :
    Calls Try.prog 65 #[.int .i64 x, .int .i64 d] w fun e w' => e = .returned (.agg #[.int .i64 (rzN x d), .int .i64 (rzD x d)]) ∧ Below w.heap.size w w' := by
  by_cases hneg : x < 0
  · obtain ⟨m, hm⟩ : ∃ m : Nat, x = -(m : Int) := ⟨x.natAbs, by omega⟩
    have hmn : x.natAbs = m := by omega
    have hrN : Hid (rzN x d = - lowN m d) := by show _ = _; unfold rzN; rw [if_pos hneg, hmn]
    have hrD : Hid (rzD x d = lowD m d) := by show _ = _; unfold rzD; rw [hmn]
    have hab := impl_absOfI x
    rw [hmn] at hab
    have hmb : m ≤ 2000000000 := by omega
    have h1 : ¬ (d : Int) < 0 := by omega
    have hg1 : 0 < Nat.gcd m d := Nat.gcd_pos_of_pos_right _ hpos
    have hg2 : Nat.gcd m d ≤ 2000000000 := Nat.le_trans (Nat.gcd_le_right _ hpos) hd
    have hN := Lib.hid (show lowN m d = ((m / Nat.gcd m d : Nat) : Int) from rfl)
    have hD := Lib.hid (show lowD m d = ((d / Nat.gcd m d : Nat) : Int) from rfl)
    have habH := Lib.hid hab
    have hmH := Lib.hid hm
    clear hab hmn hm
    go_enter Try.func65, Try.ntmps65
    go_wp2_with fail
    refine (habH.out _ (by omega) (by omega)).mono ?_
    rintro e w' ⟨rfl, rfl⟩
    go_wp2_with fail
    refine (impl_divisorOf _ _ _ hmb hd).mono ?_
    rintro e w1 ⟨rfl, hB⟩
    obtain ⟨g, hg⟩ : ∃ g, Nat.gcd m d = g := ⟨_, rfl⟩
    rw [hg] at hN hD hg1 hg2
    rw [hg]
    clear hg
    have hb0 := (Blk.new w 37 #[.int .i64 0, .int .i64 0]).now hB
    obtain ⟨k0, k1⟩ := hb0.c2
    obtain ⟨z0, z1⟩ := hb0.f2
    have hW : Below w.heap.size w w1 := ((Below.refl _ _).alloc (Nat.le_refl _) _).trans (hB.mono (by simp))
    have hm1 : (g : Int) ≠ 0 := by omega
    have hm2 : ((g : Int) == 0) = false := by simp; omega
    have hm3 : g ≠ 0 := by omega
    have hm5 : (1 : Int) ≤ (g : Int) := by omega
    have hb1 : (0 : Int) ≤ (d : Int) := by omega
    clear hB hb0
    have hN' : Hid (x.tdiv (g : Int) = rzN x d) := by
      show _ = _
      rw [hrN.out, hN.out, hmH.out, Int.neg_tdiv, ← Int.ofNat_tdiv]
    have hD' : Hid (wrap64 ((d : Int) / (g : Int)) = rzD x d) := by
      show _ = _
      rw [hrD.out, hD.out, ← Int.natCast_ediv]
      have q0 := Nat.div_le_self d g
      generalize d / g = q at *
      exact IntWalk.wrap64_in _ (by omega)
    go_wp2_with fail
    go_region
    rw [hN'.out, hD'.out]
    go_wp2
    exact bodyPost_ret (v := .agg #[.int .i64 (rzN x d), .int .i64 (rzD x d)]) (by simp [results, Try.results65, go_sem, k0, k1]) rfl ⟨rfl, ((hW.setCell (by simp) _).setCell (by simp) _).drew⟩
  · have e := impl_ratioOf x.toNat d w (by omega) hd hpos
    rw [show ((x.toNat : Nat) : Int) = x by omega] at e
    have h2 : rzN x d = lowN x.toNat d := by unfold rzN; rw [if_neg hneg, show x.natAbs = x.toNat by omega]
    have h3 : rzD x d = lowD x.toNat d := by unfold rzD; rw [show x.natAbs = x.toNat by omega]
    rw [h2, h3]
    exact e
set_option maxHeartbeats 400000 in
set_option maxRecDepth 100000 in
theorem impl_compareRatiosZ (a b c d : Int) (w : World) (ha : -2000000000 ≤ a ∧ a ≤ 2000000000) (hb : 0 ≤ b ∧ b ≤ 2000000000) (hc : -2000000000 ≤ c ∧ c ≤ 2000000000) (hd : 0 ≤ d ∧ d ≤ 2000000000) :
    Calls Try.prog 66 #[.agg #[.int .i64 a, .int .i64 b], .agg #[.int .i64 c, .int .i64 d]] w fun e w' => e = .returned (.int .i64 (cmpI (a * d) (c * b))) ∧ Below w.heap.size w w' := by
  obtain ⟨p1, p2⟩ := mul_bdS ha hd
  obtain ⟨q1, q2⟩ := mul_bdS hc hb
  go_enter Try.func66, Try.ntmps66
  go_wp2_with (go_at_call 89; refine (cmp_Compare _ _ _).mono ?_; rintro e w' ⟨rfl, rfl⟩)
  go_ret
  exact ⟨rfl, (by repeat (first | exact Below.refl _ _ | assumption | refine Below.drew ?_ | refine Below.alloc ?_ (by simp <;> omega) _ | refine Below.setCell ?_ (by simp <;> omega) _))⟩
set_option maxHeartbeats 400000 in
set_option maxRecDepth 100000 in
theorem impl_checkedRatioV (a b : Int) (w : World) (h : ratioOk a b = true) :
    Calls Try.prog 44 #[.agg #[.int .i64 a, .int .i64 b]] w fun e w' => e = .returned (.tuple #[.agg #[.int .i64 a, .int .i64 b], .int .i64 0]) ∧ Below w.heap.size w w' := by
  have hH := Lib.hid h
  clear h
  have hAl : Below w.heap.size w ((w.alloc (.cells #[.int .i64 a, .int .i64 b] 37)).alloc (.cells #[.int .i64 0, .int .i64 0] 37)) := ((Below.refl _ _).alloc (Nat.le_refl _) _).alloc (by simp) _
  have hb0 : Blk ((w.alloc (.cells #[.int .i64 a, .int .i64 b] 37)).alloc (.cells #[.int .i64 0, .int .i64 0] 37)) w.heap.size 37 #[.int .i64 a, .int .i64 b] := (Blk.newAt w _ rfl).alloc _
  have hb1 : Blk ((w.alloc (.cells #[.int .i64 a, .int .i64 b] 37)).alloc (.cells #[.int .i64 0, .int .i64 0] 37)) (w.heap.size + 1) 37 #[.int .i64 0, .int .i64 0] := Blk.newAt _ _ (by simp)
  obtain ⟨c0, c1⟩ := hb0.c2
  go_enter Try.func44, Try.ntmps44
  go_wp2_with fail
  refine (impl_IsRatio _ _ _).mono ?_
  rintro e w1 ⟨rfl, hB⟩
  rw [hH.out]
  clear c0 c1
  replace hb0 := hb0.now hB
  replace hb1 := hb1.now hB
  have hW := hAl.trans (hB.mono hAl.size)
  obtain ⟨c0, c1⟩ := hb0.c2
  obtain ⟨d0, d1⟩ := hb1.c2
  obtain ⟨f0, f1⟩ := hb1.f2
  have l0 := hb0.lt
  have l1 := hb1.lt
  have r0 := ((hb1.set2a (u := .int .i64 a)).set2b (u := .int .i64 b)).c2
  clear hb0 hb1 hB hAl
  go_wp2
  refine bodyPost_ret (v := .tuple #[.agg #[.int .i64 a, .int .i64 b], .int .i64 0]) (by simp [results, Try.results44, go_sem, r0.1, r0.2]) rfl ?_
  exact ⟨rfl, (hW.setCell (by show w.heap.size ≤ w.heap.size + 1; omega) _).setCell (by show w.heap.size ≤ w.heap.size + 1; omega) _⟩
/-! ### Karp's quotients -/
theorem rz_bd {x B : Int} {d : Nat} (hx : -B ≤ x ∧ x ≤ B) (hd : 0 < d) : (-B ≤ rzN x d ∧ rzN x d ≤ B) ∧ 0 < rzD x d ∧ rzD x d ≤ d := by
  obtain ⟨h1, h2, _, _, h5, h6⟩ := low_facts x.natAbs d hd
  unfold rzN rzD
  refine ⟨?_, h2, h6⟩
  split <;> omega
def qN (n : Nat) (F : Nat → Nat → Int) (v k : Nat) : Int := rzN (karT n F n v - karT n F k v) (n - k)
def qD (n : Nat) (F : Nat → Nat → Int) (v k : Nat) : Int := rzD (karT n F n v - karT n F k v) (n - k)
theorem kar_bd {n : Nat} {F : Nat → Nat → Int} (h : finM n 11000 F) {k v : Nat} (hn : n ≤ 10) (hk : k ≤ n) (hv : v < n) : (-110000 ≤ karT n F k v ∧ karT n F k v ≤ 110000) ∨ karT n F k v = bot := by
  rcases karT_fin h (by omega) k v hv with h1 | h1
  · exact .inr h1
  · left; omega
theorem q_bd {n : Nat} {F : Nat → Nat → Int} (h : finM n 11000 F) {k v : Nat} (hn : n ≤ 10) (hk : k < n) (hv : v < n) (h1 : karT n F n v ≠ bot) (h2 : karT n F k v ≠ bot) :
    (-220000 ≤ karT n F n v - karT n F k v ∧ karT n F n v - karT n F k v ≤ 220000) ∧ (-220000 ≤ qN n F v k ∧ qN n F v k ≤ 220000) ∧ 0 < qD n F v k ∧ qD n F v k ≤ 10 := by
  have h3 := (kar_bd h hn (Nat.le_refl n) hv).resolve_right h1
  have h4 := (kar_bd h hn (Nat.le_of_lt hk) hv).resolve_right h2
  have h5 : -220000 ≤ karT n F n v - karT n F k v ∧ karT n F n v - karT n F k v ≤ 220000 := by omega
  obtain ⟨h6, h7, h8⟩ := rz_bd (d := n - k) h5 (by omega)
  refine ⟨h5, h6, h7, ?_⟩
  unfold qD
  omega
theorem cmp_trans {x y a b u v : Int} (hb : 0 < b) (hy : 0 < y) (hv : 0 < v) (h1 : x * b ≤ a * y) (h2 : a * v ≤ u * b) : x * v ≤ u * y := by
  have e1 : x * b * v ≤ a * y * v := Int.mul_le_mul_of_nonneg_right h1 (by omega)
  have e2 : a * v * y ≤ u * b * y := Int.mul_le_mul_of_nonneg_right h2 (by omega)
  have q1 : x * b * v = x * v * b := by rw [Int.mul_assoc, Int.mul_comm b v, ← Int.mul_assoc]
  have q2 : a * y * v = a * v * y := by rw [Int.mul_assoc, Int.mul_comm y v, ← Int.mul_assoc]
  have q3 : u * b * y = u * y * b := by rw [Int.mul_assoc, Int.mul_comm b y, ← Int.mul_assoc]
  exact Int.le_of_mul_le_mul_right (show x * v * b ≤ u * y * b by omega) hb
/-- The least of the quotients of one node up to m. -/
def LeastS (n : Nat) (F : Nat → Nat → Int) (v m : Nat) (a b : Int) (f : Bool) : Prop :=
  (f = false → ∀ k, k < m → karT n F k v = bot) ∧ (f = true → (∃ k, k < n ∧ karT n F k v ≠ bot ∧ a = qN n F v k ∧ b = qD n F v k) ∧ ∀ k, k < m → karT n F k v ≠ bot → a * qD n F v k ≤ qN n F v k * b)
section
variable {n m v : Nat} {F : Nat → Nat → Int} {a b c d : Int} {f : Bool}
theorem LeastS.zero (n v : Nat) (F : Nat → Nat → Int) (a b : Int) : LeastS n F v 0 a b false := ⟨fun _ k hk => absurd hk (Nat.not_lt_zero k), fun h => by cases h⟩
theorem LeastS.skip (h : LeastS n F v m a b f) (h1 : karT n F m v = bot) : LeastS n F v (m + 1) a b f := by
  refine ⟨fun hf k hk => ?_, fun hf => ⟨(h.2 hf).1, fun k hk hne => ?_⟩⟩
  · by_cases e : k = m
    · rw [e]; exact h1
    · exact h.1 hf k (by omega)
  · by_cases e : k = m
    · rw [e] at hne; exact absurd h1 hne
    · exact (h.2 hf).2 k (by omega) hne
theorem LeastS.keep (h : LeastS n F v m a b true) (h1 : ¬ qN n F v m * b < a * qD n F v m) : LeastS n F v (m + 1) a b true := by
  refine ⟨fun hf => (by cases hf), fun hf => ⟨(h.2 hf).1, fun k hk hne => ?_⟩⟩
  by_cases e : k = m
  · rw [e]; omega
  · exact (h.2 hf).2 k (by omega) hne
theorem LeastS.take (hF : finM n 11000 F) (hn : n ≤ 10) (hv : v < n) (hm : m < n) (hnv : karT n F n v ≠ bot) (h : LeastS n F v m a b f) (h1 : karT n F m v ≠ bot) (h2 : f = false ∨ qN n F v m * b < a * qD n F v m) : LeastS n F v (m + 1) (qN n F v m) (qD n F v m) true := by
  refine ⟨fun hf => (by cases hf), fun _ => ⟨⟨m, hm, h1, rfl, rfl⟩, fun k hk hne => ?_⟩⟩
  by_cases e : k = m
  · rw [e]; exact Int.le_refl _
  · cases f with
    | false => exact absurd (h.1 rfl k (by omega)) hne
    | true =>
      obtain ⟨⟨k0, hk0, hne0, ea, eb⟩, hall⟩ := h.2 rfl
      have h3 := hall k (by omega) hne
      have h4 : qN n F v m * b < a * qD n F v m := h2.resolve_left (by decide)
      have p1 := (q_bd hF hn hk0 hv hnv hne0).2.2.1
      have p2 := (q_bd hF hn hm hv hnv h1).2.2.1
      have p3 := (q_bd hF hn (show k < n by omega) hv hnv hne).2.2.1
      exact cmp_trans (by rw [eb]; exact p1) p2 p3 (Int.le_of_lt h4) h3
theorem LeastS.bd (hF : finM n 11000 F) (hn : n ≤ 10) (hv : v < n) (hnv : karT n F n v ≠ bot) (h : LeastS n F v m a b true) : (-220000 ≤ a ∧ a ≤ 220000) ∧ 0 < b ∧ b ≤ 10 := by
  obtain ⟨k, hk, hne, rfl, rfl⟩ := (h.2 rfl).1
  have := q_bd hF hn hk hv hnv hne
  exact this.2
/-- Node 0 has a quotient: the one of no steps. -/
theorem LeastS.found (hn : 1 ≤ n) (h : LeastS n F v n a b f) : f = true := by
  cases f with
  | true => rfl
  | false =>
    have := h.1 rfl 0 hn
    simp [karT, bot] at this
/-- The greatest of the least quotients, up to m. -/
def MeanS (n : Nat) (F : Nat → Nat → Int) (m : Nat) (a b : Int) (f : Bool) : Prop :=
  (f = false → ∀ v, v < m → karT n F n v = bot) ∧ (f = true → (∃ v, v < n ∧ karT n F n v ≠ bot ∧ LeastS n F v n a b true) ∧ ∀ v, v < m → karT n F n v ≠ bot → ∃ c d, LeastS n F v n c d true ∧ c * b ≤ a * d)
theorem MeanS.zero (n : Nat) (F : Nat → Nat → Int) (a b : Int) : MeanS n F 0 a b false := ⟨fun _ k hk => absurd hk (Nat.not_lt_zero k), fun h => by cases h⟩
theorem MeanS.skip (h : MeanS n F m a b f) (h1 : karT n F n m = bot) : MeanS n F (m + 1) a b f := by
  refine ⟨fun hf k hk => ?_, fun hf => ⟨(h.2 hf).1, fun k hk hne => ?_⟩⟩
  · by_cases e : k = m
    · rw [e]; exact h1
    · exact h.1 hf k (by omega)
  · by_cases e : k = m
    · rw [e] at hne; exact absurd h1 hne
    · exact (h.2 hf).2 k (by omega) hne
theorem MeanS.keep (h : MeanS n F m a b true) (hL : LeastS n F m n c d true) (h1 : ¬ a * d < c * b) : MeanS n F (m + 1) a b true := by
  refine ⟨fun hf => (by cases hf), fun hf => ⟨(h.2 hf).1, fun k hk hne => ?_⟩⟩
  by_cases e : k = m
  · rw [e]; exact ⟨c, d, hL, by omega⟩
  · exact (h.2 hf).2 k (by omega) hne
theorem MeanS.take (hF : finM n 11000 F) (hn : n ≤ 10) (hm : m < n) (h : MeanS n F m a b f) (hne1 : karT n F n m ≠ bot) (hL : LeastS n F m n c d true) (h2 : f = false ∨ a * d < c * b) : MeanS n F (m + 1) c d true := by
  refine ⟨fun hf => (by cases hf), fun _ => ⟨⟨m, hm, hne1, hL⟩, fun k hk hne => ?_⟩⟩
  by_cases e : k = m
  · rw [e]; exact ⟨c, d, hL, Int.le_refl _⟩
  · cases f with
    | false => exact absurd (h.1 rfl k (by omega)) hne
    | true =>
      obtain ⟨⟨v0, hv0, hne0, hL0⟩, hall⟩ := h.2 rfl
      obtain ⟨c', d', hL', hle⟩ := hall k (by omega) hne
      have p0 := (hL0.bd hF hn hv0 hne0).2.1
      have p1 := (hL.bd hF hn hm hne1).2.1
      have p2 := (hL'.bd hF hn (by omega) hne).2.1
      have h4 : a * d < c * b := h2.resolve_left (by decide)
      exact ⟨c', d', hL', cmp_trans p0 p2 p1 hle (Int.le_of_lt h4)⟩
theorem MeanS.bd (hF : finM n 11000 F) (hn : n ≤ 10) (h : MeanS n F m a b true) : (-220000 ≤ a ∧ a ≤ 220000) ∧ 0 < b ∧ b ≤ 10 := by
  obtain ⟨v, hv, hne, hL⟩ := (h.2 rfl).1
  exact hL.bd hF hn hv hne
end
theorem own_new1T2 {α : Type} (f : α → List Value) (size : Nat) (hf : ∀ x, (f x).length = size) (w : World) (e : TypeId) (base : Nat) (hb : base ≤ w.heap.size) (x : α) (hs : size ≤ 64) : Own f size e (w.alloc (.cells (f x).toArray e)) base (.slice (some ⟨w.heap.size, 0, none⟩) 1 1) ([x] : List α) :=
  ⟨by simp [hf], .inr ⟨w.heap.size, 1, (f x).toArray, rfl, hb, heap_alloc_new w _, Nat.le_refl _, by simp [maxLen], by simp [hf], by simp; exact List.take_of_length_le (Nat.le_of_eq (hf x))⟩⟩
/-- A table of one row that is there. -/
theorem OwnM.sole {w : World} {base : Nat} {r : Ref} {l : List Int} (h : Own intCell 1 2 w base r.val l) (hb : base ≤ w.heap.size) : OwnM (w.alloc (.cells #[r.val] 50)) base (.slice (some ⟨w.heap.size, 0, none⟩) 1 1) [l] := by
  refine ⟨[r], rfl, own_new1T2 Ref.cells 1 Ref.cells_len w 50 base hb r (by decide), fun i hi hi2 => ?_, fun i j hi hj hne => ?_⟩
  · obtain rfl : i = 0 := by simp at hi; omega
    exact h.now ((Below.refl _ _).alloc (Nat.le_refl _) _)
  · simp at hi hj
    omega
set_option maxHeartbeats 4000000 in
set_option maxRecDepth 100000 in
theorem impl_timesVectorV (u v : Value) (n : Nat) (F : Nat → Nat → Int) (z : Nat → Int) (w : World) (h1 : LstM w w.heap.size u (matF n F n)) (h2 : Lst intCell 1 w w.heap.size v ((List.range n).map z)) (hF : Hid (bnd n F)) (hz : Hid (∀ k, k < n → (-5000000000000 ≤ z k ∧ z k ≤ 5000000000000) ∨ z k = bot)) (hn : 1 ≤ n) (hn2 : n ≤ 1000) :
    Calls Try.prog 64 #[u, v] w (RetOwn intCell 1 2 w ((List.range n).map (appF n F z))) := by
  obtain ⟨b1, o1, c, _, _, _, rfl, hb1, _, _, _⟩ := mat_at h1 0 0 hn hn
  obtain ⟨A2, c2, rfl⟩ := h2.shape
  rw [List.length_map, List.length_range] at h2 ⊢
  obtain ⟨xb, xo, rfl, hxb, _⟩ := ints_at h2 0 (by simp; omega)
  have hmk2 := run_make_lst (P := Try.prog) intCell 1 intCell_len (by omega) (0 : Int) 50 2 _ 8 Try.underlying50 info_i64 rfl .i64 .i64 n (by omega) (by omega)
  have hm3 := fun w => (hmk2 w).1
  have hm4 := Lib.hid ((hmk2 w).2 w.heap.size (Nat.le_refl _))
  clear hmk2
  go_enter Try.func64, Try.ntmps64
  go_wp2
  clear hm3
  go_loopw [6, 7, 8, 9, 15] (fun _ _ _ _ q wr => ∃ i : Nat, i ≤ n ∧ q = .int .i64 i ∧ Own intCell 1 2 wr w.heap.size (.slice (some ⟨w.heap.size, 0, none⟩) n n) (rowF n (appF n F z) i) ∧ Below w.heap.size w wr) (fun _ _ _ _ q _ => n - (intOf q).toNat)
  case atStart => exact ⟨0, Nat.zero_le _, rfl, by rw [rowF_zero]; simpa using hm4.out, (Below.refl _ _).alloc (Nat.le_refl _) _⟩
  case round =>
    clear hm4
    obtain ⟨i, hi, rfl, hO, hB⟩ := hrel
    by_cases hlt : i < n
    · obtain ⟨_, _, _, r1, p1, c1, hu, hr1, x1, _, x2⟩ := mat_row (h1.now hB) i hlt (by omega)
      cases hu
      have hr1' : r1 < w.heap.size := by
        obtain ⟨_, _, _, r1', p1', c1', hu, hr2, x1', hr3, _⟩ := mat_row h1 i hlt (by omega)
        cases hu
        have := cell_keep x1' hB
        rw [x1] at this
        injection this with this
        injection this with this _ _
        injection this with this
        injection this with this _ _
        omega
      have x2' := Lib.hid x2
      clear x2
      obtain ⟨hob, hol, hof, _⟩ := own_ints_at hO i (by rw [rowF_len _ _ _ hi]; exact hlt)
      have hO1 := hO.set1 i (by rw [rowF_len _ _ _ hi]; exact hlt) (-1000000000000000)
      have hB1 := hB.setCell (p := ⟨w.heap.size, i, none⟩) (Nat.le_refl _) (.int .i64 (-1000000000000000))
      have hO1' := Lib.hid hO1
      have hB1' := Lib.hid hB1
      have x2'' : Hid (∀ j, j < n → (wr.setCell ⟨w.heap.size, i, none⟩ (.int .i64 (-1000000000000000))).cell? ⟨r1, p1 + j, none⟩ = some (.int .i64 (F i j))) := fun j hj => (World.cell?_setCell_far wr _ _ _ (by show w.heap.size ≠ r1; omega)).trans (x2'.out j hj)
      clear hO1 hB1
      go_wp2
      clear hof x1 hO hB x2'
      generalize hVV : wr.setCell ⟨w.heap.size, i, none⟩ (.int .i64 (-1000000000000000)) = V at *
      clear hVV
      go_loopw [8, 9, 25] (fun _ _ q wr => ∃ k : Nat, k ≤ n ∧ q = .int .i64 k ∧ Own intCell 1 2 wr w.heap.size (.slice (some ⟨w.heap.size, 0, none⟩) n n) ((rowF n (appF n F z) i).set i (sumT k fun k => tms (F i k) (z k))) ∧ Below w.heap.size w wr ∧ Hid (∀ j, j < n → wr.cell? ⟨r1, p1 + j, none⟩ = some (.int .i64 (F i j)))) (fun _ _ q _ => n - (intOf q).toNat)
      case atStart => exact ⟨0, Nat.zero_le _, rfl, hO1'.out, hB1'.out, x2''⟩
      case round =>
        clear hO1' hB1' x2''
        obtain ⟨k, hk, rfl, hO, hB, hX⟩ := hrel
        by_cases hlt2 : k < n
        · have x2 := hX.out k hlt2
          obtain ⟨_, _, hh, hxb2, y1⟩ := ints_at (h2.now hB) k (by simpa using hlt2)
          cases hh
          rw [List.getElem_map, List.getElem_range] at y1
          obtain ⟨hob, hol, hof, hs⟩ := own_ints_at hO i (by simp [rowF_len _ _ _ hi]; exact hlt)
          rw [List.getElem_set_self] at hs
          have htm := Lib.hid (fun W => impl_times (F i k) (z k) W (hF.out i k hlt hlt2) (hz.out k hlt2))
          have hE : Hid (sumT (k + 1) (fun k => tms (F i k) (z k)) = if sumT k (fun k => tms (F i k) (z k)) < tms (F i k) (z k) then tms (F i k) (z k) else sumT k (fun k => tms (F i k) (z k))) := sumT_if _ _
          obtain ⟨sv, hsv⟩ : ∃ sv, sumT k (fun k => tms (F i k) (z k)) = sv := ⟨_, rfl⟩
          have hBd : Below wr.heap.size wr wr.drew := Below.drew (Below.refl _ wr)
          have hOn := ((hO.now hBd).set1 i (by simp [rowF_len _ _ _ hi]; exact hlt) (if sv < tms (F i k) (z k) then tms (F i k) (z k) else sv))
          rw [List.set_set, ← hsv, ← hE.out] at hOn
          have hBn := (hB.trans (hBd.mono hB.size)).setCell (p := ⟨w.heap.size, i, none⟩) (Nat.le_refl _) (.int .i64 (sumT (k + 1) fun k => tms (F i k) (z k)))
          rw [hE.out] at hOn hBn
          rw [hsv] at hs hOn hBn
          have hXn : Hid (∀ j, j < n → (wr.drew.setCell ⟨w.heap.size, i, none⟩ (.int .i64 (if sv < tms (F i k) (z k) then tms (F i k) (z k) else sv))).cell? ⟨r1, p1 + j, none⟩ = some (.int .i64 (F i j))) := fun j hj => (World.cell?_setCell_far wr.drew _ _ _ (by show w.heap.size ≠ r1; omega)).trans (hX.out j hj)
          have hE' := hE.out
          rw [hsv] at hE'
          have hE2 := Lib.hid hE'
          clear hE hE' hsv
          have hOn' := Lib.hid hOn
          have hBn' := Lib.hid hBn
          have z0 := cell_keep hs hBd
          have z1 := cell_keep y1 hBd
          have i1 : (0 : Int) ≤ (i : Int) := by omega
          have i2 : (i : Int) < (n : Int) := by omega
          clear hOn hBn hO hB hX hs y1
          go_wp2_with fail
          refine wp_region_E (fun w' => w'.cell? ⟨w.heap.size, i, none⟩ = some (.int .i64 sv) ∧ w'.cell? ⟨xb, xo + k, none⟩ = some (.int .i64 (z k))) 14 (by kernel_rfl) ?_
          have hS0 : (fun w' : World => w'.cell? ⟨w.heap.size, i, none⟩ = some (.int .i64 sv) ∧ w'.cell? ⟨xb, xo + k, none⟩ = some (.int .i64 (z k))) wr.drew := ⟨z0, z1⟩
          refine wpAnyE_take (i := 0) (v := ?_) rfl (by kernel_rfl) (by kernel_rfl) (by kernel_rfl) (by kernel_rfl) (by kernel_rfl) (fun _ _ _ h => h) hS0 (by rfl) ?_ ?_
          rotate_left
          · intro w9 hSw
            try dsimp only at hSw
            obtain ⟨s0, s1⟩ := hSw
            go_simp
            try with_reducible rfl
          try simp only [Act.put, List.setIfInBounds_toArray, List.set_cons_zero, List.set_cons_succ]
          refine wpAnyE_take (i := 1) (v := ?_) rfl (by kernel_rfl) (by kernel_rfl) (by kernel_rfl) (by kernel_rfl) (by kernel_rfl) (fun _ _ _ h => h) hS0 (by rfl) ?_ ?_
          rotate_left
          · intro w9 hSw
            try dsimp only at hSw
            obtain ⟨s0, s1⟩ := hSw
            go_simp
            try with_reducible rfl
          try simp only [Act.put, List.setIfInBounds_toArray, List.set_cons_zero, List.set_cons_succ]
          refine wpAnyE_take (i := 2) (v := ?_) rfl (by kernel_rfl) (by kernel_rfl) (by kernel_rfl) (by kernel_rfl) (by kernel_rfl) (fun _ _ _ h => h) hS0 (by rfl) ?_ ?_
          rotate_left
          · intro w9 hSw
            try dsimp only at hSw
            obtain ⟨s0, s1⟩ := hSw
            go_simp
            try with_reducible rfl
          try simp only [Act.put, List.setIfInBounds_toArray, List.set_cons_zero, List.set_cons_succ]
          refine wpAnyE_take (i := 3) (v := ?_) rfl (by kernel_rfl) (by kernel_rfl) (by kernel_rfl) (by kernel_rfl) (by kernel_rfl) (fun _ _ _ h => h) hS0 (by rfl) ?_ ?_
          rotate_left
          · intro w9 hSw
            try dsimp only at hSw
            obtain ⟨s0, s1⟩ := hSw
            go_simp
            try with_reducible rfl
          try simp only [Act.put, List.setIfInBounds_toArray, List.set_cons_zero, List.set_cons_succ]
          refine wpAnyE_take (i := 4) (v := ?_) rfl (by kernel_rfl) (by kernel_rfl) (by kernel_rfl) (by kernel_rfl) (by kernel_rfl) (fun _ _ _ h => h) hS0 (by rfl) ?_ ?_
          rotate_left
          · intro w9 hSw
            try dsimp only at hSw
            obtain ⟨s0, s1⟩ := hSw
            go_simp
            try with_reducible rfl
          try simp only [Act.put, List.setIfInBounds_toArray, List.set_cons_zero, List.set_cons_succ]
          refine wpAnyE_take (i := 5) (v := ?_) rfl (by kernel_rfl) (by kernel_rfl) (by kernel_rfl) (by kernel_rfl) (by kernel_rfl) (fun _ _ _ h => h) hS0 (by rfl) ?_ ?_
          rotate_left
          · intro w9 hSw
            try dsimp only at hSw
            obtain ⟨s0, s1⟩ := hSw
            go_simp
            try with_reducible rfl
          try simp only [Act.put, List.setIfInBounds_toArray, List.set_cons_zero, List.set_cons_succ]
          refine wpAnyE_take (i := 6) (v := ?_) rfl (by kernel_rfl) (by kernel_rfl) (by kernel_rfl) (by kernel_rfl) (by kernel_rfl) (fun _ _ _ h => h) hS0 (by rfl) ?_ ?_
          rotate_left
          · intro w9 hSw
            try dsimp only at hSw
            obtain ⟨s0, s1⟩ := hSw
            go_simp
            try with_reducible rfl
          try simp only [Act.put, List.setIfInBounds_toArray, List.set_cons_zero, List.set_cons_succ]
          refine wpAnyE_take (i := 7) (v := ?_) rfl (by kernel_rfl) (by kernel_rfl) (by kernel_rfl) (by kernel_rfl) (by kernel_rfl) (fun _ _ _ h => h) hS0 (by rfl) ?_ ?_
          rotate_left
          · intro w9 hSw
            try dsimp only at hSw
            obtain ⟨s0, s1⟩ := hSw
            go_simp
            try with_reducible rfl
          try simp only [Act.put, List.setIfInBounds_toArray, List.set_cons_zero, List.set_cons_succ]
          refine wpAnyE_take (i := 8) (v := ?_) rfl (by kernel_rfl) (by kernel_rfl) (by kernel_rfl) (by kernel_rfl) (by kernel_rfl) (fun _ _ _ h => h) hS0 (by rfl) ?_ ?_
          rotate_left
          · intro w9 hSw
            try dsimp only at hSw
            obtain ⟨s0, s1⟩ := hSw
            go_simp
            try with_reducible rfl
          try simp only [Act.put, List.setIfInBounds_toArray, List.set_cons_zero, List.set_cons_succ]
          refine wpAnyE_take (i := 9) (v := ?_) rfl (by kernel_rfl) (by kernel_rfl) (by kernel_rfl) (by kernel_rfl) (by kernel_rfl) (fun _ _ _ h => h) hS0 (by rfl) ?_ ?_
          rotate_left
          · intro w9 hSw
            try dsimp only at hSw
            obtain ⟨s0, s1⟩ := hSw
            go_simp
            try with_reducible rfl
          try simp only [Act.put, List.setIfInBounds_toArray, List.set_cons_zero, List.set_cons_succ]
          refine wpAnyE_take (i := 10) (v := ?_) rfl (by kernel_rfl) (by kernel_rfl) (by kernel_rfl) (by kernel_rfl) (by kernel_rfl) (fun _ _ _ h => h) hS0 (by rfl) ?_ ?_
          rotate_left
          · intro w9 hSw
            try dsimp only at hSw
            obtain ⟨s0, s1⟩ := hSw
            go_simp
            try with_reducible rfl
          try simp only [Act.put, List.setIfInBounds_toArray, List.set_cons_zero, List.set_cons_succ]
          refine wpAnyE_one (i := 11) rfl (by kernel_rfl) (fun K hK => ?_)
          go_simp
          go_at_call 62
          refine (htm.out _).mono ?_
          rintro e9 w9 ⟨rfl, rfl⟩
          refine hK.out _ _ (fun _ => ⟨z0, z1⟩) ?_
          clear hK K
          try simp only [Act.put, List.setIfInBounds_toArray, List.set_cons_zero, List.set_cons_succ]
          refine wpAnyE_one (i := 12) rfl (by kernel_rfl) (fun K hK => ?_)
          go_simp
          refine hK.out _ _ (fun _ => ⟨z0, z1⟩) ?_
          clear hK K
          try simp only [Act.put, List.setIfInBounds_toArray, List.set_cons_zero, List.set_cons_succ]
          refine wpAnyE_one (i := 13) rfl (by kernel_rfl) (fun K hK => ?_)
          go_simp
          refine hK.out _ _ (fun _ => ⟨z0, z1⟩) ?_
          clear hK K
          try simp only [Act.put, List.setIfInBounds_toArray, List.set_cons_zero, List.set_cons_succ]
          refine wpAnyE_one (i := 14) rfl (by kernel_rfl) (fun K hK => ?_)
          go_simp
          refine hK.out _ _ (fun h => absurd rfl h) ?_
          clear hK K
          try simp only [Act.put, List.setIfInBounds_toArray, List.set_cons_zero, List.set_cons_succ]
          refine wpAnyE_done (by kernel_rfl) ?_
          clear hS0 z0 z1 htm x2
          go_wp2
          go_roundw
          case rel => exact ⟨k + 1, hlt2, by go_num, by rw [hE2.out]; exact hOn'.out, hBn'.out, hXn⟩
          case measure => simp [intOf]; omega
        · obtain rfl : k = n := by omega
          have hOn := hO
          rw [show (sumT k fun k => tms (F i k) (z k)) = appF k F z i from rfl, rowF_set _ _ _ hlt] at hOn
          go_wp2
          go_roundw
          case rel => exact ⟨i + 1, hlt, by go_num, hOn, hB⟩
          case measure => simp [intOf]; omega
    · obtain rfl : i = n := by omega
      rw [rowF_all] at hO
      go_wp2
      go_ret
      exact ⟨_, rfl, hO, hB⟩
set_option maxHeartbeats 8000000 in
set_option maxRecDepth 100000 in
theorem impl_cycleMean (u : Value) (n : Nat) (F : Nat → Nat → Int) (w : World) (h1 : LstM w w.heap.size u (matF n F n)) (hn : 1 ≤ n) (hn2 : n ≤ 10) (hF : Hid (finM n 11000 F)) :
    Calls Try.prog 43 #[u] w fun e w' => ∃ (a b : Int) (f : Bool), e = .returned (.tuple #[.agg #[.int .i64 a, .int .i64 b], .bool f]) ∧ MeanS n F n a b f ∧ (f = false → a = 0 ∧ b = 0) ∧ Below w.heap.size w w' := by
  obtain ⟨b1, o1, c1, _, _, _, rfl, hb1, _, _, _⟩ := mat_at h1 0 0 hn hn
  have hbd : Hid (bnd n F) := fun i j hi hj => (hF.out i j hi hj).elim .inr (fun h => .inl (by omega))
  have hKb : Hid (∀ k v, k ≤ n → v < n → (-110000 ≤ karT n F k v ∧ karT n F k v ≤ 110000) ∨ karT n F k v = bot) := fun k v hk hv => kar_bd hF.out hn2 hk hv
  have hA0 : Below w.heap.size w (w.alloc (.cells #[.int .i64 0, .int .i64 0] 37)) := (Below.refl _ _).alloc (Nat.le_refl _) _
  have hbx : Blk (w.alloc (.cells #[.int .i64 0, .int .i64 0] 37)) w.heap.size 37 #[.int .i64 0, .int .i64 0] := Blk.newAt w _ rfl
  have hmk := run_make_lst (P := Try.prog) intCell 1 intCell_len (by omega) (0 : Int) 50 2 _ 8 Try.underlying50 info_i64 rfl .i64 .i64 n (by omega) (by omega)
  have hm1 := fun w => (hmk w).1
  have hm2 := Lib.hid fun (w : World) => (hmk w).2 w.heap.size (Nat.le_refl _)
  clear hmk
  go_enter Try.func43, Try.ntmps43
  go_wp2
  have hR0 := hm2.out (w.alloc (.cells #[.int .i64 0, .int .i64 0] 37))
  simp only [Nat.mul_one] at hR0
  have hA1 : Below (w.alloc (.cells #[.int .i64 0, .int .i64 0] 37)).heap.size (w.alloc (.cells #[.int .i64 0, .int .i64 0] 37)) ((w.alloc (.cells #[.int .i64 0, .int .i64 0] 37)).alloc (.cells (madeCells (intCell 0).toArray n) 2)) := (Below.refl _ _).alloc (Nat.le_refl _) _
  have hM0 := OwnM.sole (r := ⟨some ⟨(w.alloc (.cells #[.int .i64 0, .int .i64 0] 37)).heap.size, 0, none⟩, n, n⟩) hR0 (by simp)
  have hB0 := hA1.alloc (B := (w.alloc (.cells #[.int .i64 0, .int .i64 0] 37)).heap.size) (by simp) (.cells #[Ref.val ⟨some ⟨(w.alloc (.cells #[.int .i64 0, .int .i64 0] 37)).heap.size, 0, none⟩, n, n⟩] 50)
  have hs0 : (w.alloc (.cells #[.int .i64 0, .int .i64 0] 37)).heap.size = w.heap.size + 1 := by simp
  rw [hs0] at hM0 hB0
  simp only [Ref.val] at hM0 hB0
  have e1 : [List.replicate n (0 : Int)] = matF n (karT n F) 1 := by
    rw [matF_succ]
    simp [matF, karT, List.map_const']
  rw [e1] at hM0
  have hs1 : ((w.alloc (.cells #[.int .i64 0, .int .i64 0] 37)).alloc (.cells (madeCells (intCell 0).toArray n) 2)).heap.size = w.heap.size + 1 + 1 := by simp
  rw [hs1] at hM0
  replace h1 := h1.now hA0
  replace hM0 := hM0.rebase (Nat.le_of_eq hs0)
  replace hB0 := hB0.mono (Nat.le_of_eq hs0)
  generalize hW0 : w.alloc (.cells #[.int .i64 0, .int .i64 0] 37) = W0 at *
  clear e1 hA1 hR0 hm1 hm2 hs1 hW0
  go_loopw [5, 6, 20] (fun o _ q wr => ∃ k : Nat, k ≤ n ∧ q = .int .i64 k ∧ OwnM wr W0.heap.size o (matF n (karT n F) (k + 1)) ∧ Below W0.heap.size W0 wr) (fun _ _ q _ => n - (intOf q).toNat)
  case atStart => exact ⟨0, Nat.zero_le _, rfl, hM0, hB0⟩
  case round =>
    clear hM0 hB0
    obtain ⟨k, hk, rfl, hM, hB⟩ := hrel
    have hs := hB.size
    by_cases hlt : k < n
    · obtain ⟨TA, tc, rfl⟩ := hM.shape
      rw [matF_len] at hM ⊢
      obtain ⟨tb, to, c2, r, hu, htb, x1, hr⟩ := hM.lst.row k (by rw [matF_len]; omega)
      rw [matF_len] at hu
      cases hu
      rw [matF_get] at hr
      obtain ⟨RA, rn, rc⟩ := r
      have hz : Hid (∀ j, j < n → (-5000000000000 ≤ karT n F k j ∧ karT n F k j ≤ 5000000000000) ∨ karT n F k j = bot) := fun j hj => (hKb.out k j hk hj).elim (fun h => .inl (by omega)) .inr
      have h1r := h1.now hB
      have i1 : (0 : Int) ≤ (k : Int) := by omega
      have i2 : (k : Int) < ((k + 1 : Nat) : Int) := by omega
      have i3 : (k : Int) < (k : Int) + 1 := by omega
      simp only [Ref.val] at x1 hr
      go_wp2_with fail
      refine (impl_timesVectorV _ _ n F (karT n F k) _ h1r hr hbd hz hn (by omega)).mono ?_
      rintro e w2 ⟨v2, rfl, hO2, hB2⟩
      have hlr : Hid (((List.range n).map (appF n F (karT n F k))).length = n) := by show _ = _; simp
      obtain ⟨RX, rcx, rfl⟩ := own_shape_n hO2 hlr.out
      obtain ⟨rs, hl, hO, hR, hD⟩ := hM
      rw [matF_len] at hl
      have hrlt : Hid (∀ i (hi : i < rs.length) q, rs[i].val.ownBlock = some q → q < wr.heap.size) := fun i hi q hq => ((hR i hi (by rw [matF_len]; omega)).lt q hq).2
      have hR' := Lib.hid hR
      have hD' := Lib.hid hD
      have hl' := Lib.hid hl
      have hlen : rs.length + [(⟨RX, n, rcx⟩ : Ref)].length ≤ 1099511627776 := by rw [hl]; simp; omega
      have hOn := hO.now hB2
      have hbs := hB2.size
      have hLL : Hid ((rs ++ [(⟨RX, n, rcx⟩ : Ref)]).length = k + 2) := by show _ = _; simp [hl]
      clear hR hD hr x1 h1r hl
      go_wp2_with (at_builtin; refine wpList_append_lst rfl _ _ 28 rfl Ref.cells 1 Ref.cells_one (by omega) W0.heap.size 50 _ 24 Try.underlying28 info_ref rfl _ _ rfl (hOn.alloc _) _ _ _ _ [(⟨RX, n, rcx⟩ : Ref)] rfl (lst_new1 _ _ Ref.cells_len _ _ _ _ rfl _ (by simp)) hlen (by omega) (Nat.le_trans hs (Nat.le_trans hbs (by simp <;> omega))) ?_; intro v' w3 hO3 hG3 hD3; obtain ⟨V1, cv1, rfl⟩ := own_shape_n hO3 hLL.out)
      have hMn : OwnM w3 W0.heap.size (.slice V1 (k + 2) cv1) (matF n (karT n F) (k + 1 + 1)) := by
        rw [matF_succ n (k + 1)]
        exact OwnM.push2 (by rw [matF_len]; exact hl'.out) (hOn.alloc _) (fun i h1 h2 => ((hR'.out i h1 h2).now hB2).alloc _) hD'.out ⟨RX, n, rcx⟩ _ wr.heap.size (hO2.alloc _) hs hrlt.out _ hG3 hO3
      have hBn := below_app ((hB.trans (hB2.mono hs)).alloc (Nat.le_trans hs hbs) _) (Nat.le_trans hs (Nat.le_trans hbs (by simp))) hG3 (hOn.alloc _) (Nat.le_refl _)
      exact ⟨⟨k + 1, hlt, by go_num, hMn, hBn⟩, by simp [intOf]; omega⟩
    · obtain rfl : n = k := by omega
      obtain ⟨TA, tc, rfl⟩ := hM.shape
      rw [matF_len] at hM ⊢
      have hL := hM.lst
      obtain ⟨tb, to, c2, _, _, _, hu, htb, _, _, _⟩ := mat_at hL 0 0 (Nat.succ_pos n) hn
      cases hu
      obtain ⟨w1, rfl⟩ : ∃ w1 : World, w1 = wr := ⟨_, rfl⟩
      have hA2 : Below w1.heap.size w1 (w1.alloc (.cells #[.int .i64 0, .int .i64 0] 37)) := (Below.refl _ _).alloc (Nat.le_refl _) _
      have hbb : Blk (w1.alloc (.cells #[.int .i64 0, .int .i64 0] 37)) w1.heap.size 37 #[.int .i64 0, .int .i64 0] := Blk.newAt w1 _ rfl
      replace hbx := hbx.now hB
      have hW1 := hA0.trans (hB.mono hA0.size)
      have hbxl := hbx.lt
      clear hM hB hs h1 hA0
      go_wp2
      go_loopw [8, 9, 10, 11, 12, 13, 34] (fun f _ _ _ _ _ q wr => ∃ (m : Nat) (a b : Int) (fb : Bool), m ≤ n ∧ q = .int .i64 m ∧ f = .bool fb ∧ Hid (MeanS n F m a b fb) ∧ Hid (fb = false → a = 0 ∧ b = 0) ∧ Blk wr w1.heap.size 37 #[.int .i64 a, .int .i64 b] ∧ Below w1.heap.size w1 wr) (fun _ _ _ _ _ _ q _ => n - (intOf q).toNat)
      case atStart => exact ⟨0, 0, 0, false, Nat.zero_le _, rfl, rfl, MeanS.zero n F 0 0, fun _ => ⟨rfl, rfl⟩, hbb, hA2⟩
      case round =>
        clear hbb hA2
        obtain ⟨m, a, b, fb, hm, rfl, rfl, hS, hZ, hbb, hB⟩ := hrel
        by_cases hlt : m < n
        · obtain ⟨_, _, _, rb, ro, rc, hu, _, x1, hrb, x2⟩ := mat_at (hL.now hB) n m (Nat.lt_succ_self n) hlt
          cases hu
          have i1 : (0 : Int) ≤ (n : Int) := by omega
          have i2 : (n : Int) < (n : Int) + 1 := by omega
          have i3 : (0 : Int) ≤ (m : Int) := by omega
          have i4 : (m : Int) < (n : Int) := by omega
          by_cases hz : karT n F n m = bot
          · have q1 : (karT n F n m == -1000000000000000) = true := by rw [hz]; rfl
            have hS' : Hid (MeanS n F (m + 1) a b fb) := hS.out.skip hz
            clear hz
            go_wp2
            go_roundw
            case rel => exact ⟨m + 1, a, b, fb, hlt, by go_num, rfl, hS', hZ, hbb, hB⟩
            case measure => simp [intOf]; omega
          · have q1 : (karT n F n m == -1000000000000000) = false := by simpa [bot] using hz
            have hne : Hid (karT n F n m ≠ bot) := hz
            clear hz
            go_wp2
            have hq0 : Blk (wr.alloc (.cells #[.int .i64 0, .int .i64 0] 37)) wr.heap.size 37 #[.int .i64 0, .int .i64 0] := Blk.newAt wr _ rfl
            have hBs := hB.size
            have hbl := hbb.lt
            have hBq := hB.alloc hBs (.cells #[.int .i64 0, .int .i64 0] 37)
            have hbq := hbb.alloc (.cells #[.int .i64 0, .int .i64 0] 37)
            obtain ⟨lx, hlx⟩ : ∃ lx, wr.heap.size = lx := ⟨_, rfl⟩
            rw [hlx] at hq0 hbl ⊢
            generalize wr.alloc (.cells #[.int .i64 0, .int .i64 0] 37) = W3 at *
            clear hbb hB hBs hlx x1 x2 q1
            go_loopw [11, 12, 13, 47] (fun g _ _ q wq => ∃ (j : Nat) (c d : Int) (gb : Bool), j ≤ n ∧ q = .int .i64 j ∧ g = .bool gb ∧ Hid (LeastS n F m j c d gb) ∧ Blk wq lx 37 #[.int .i64 c, .int .i64 d] ∧ Blk wq w1.heap.size 37 #[.int .i64 a, .int .i64 b] ∧ Below w1.heap.size w1 wq) (fun _ _ _ q _ => n - (intOf q).toNat)
            case atStart => exact ⟨0, 0, 0, false, Nat.zero_le _, rfl, rfl, LeastS.zero n m F 0 0, hq0, hbq, hBq⟩
            case round =>
              clear hq0 hbq hBq
              obtain ⟨j, c, d, gb, hj, rfl, rfl, hT, hq, hbb, hB⟩ := hrel
              by_cases hlt2 : j < n
              · obtain ⟨_, _, _, rb1, ro1, rc1, hu, _, x1, hrb1, x2⟩ := mat_at (hL.now hB) n m (Nat.lt_succ_self n) hlt
                cases hu
                obtain ⟨_, _, _, rb2, ro2, rc2, hu, _, y1, hrb2, y2⟩ := mat_at (hL.now hB) j m (by omega) hlt
                cases hu
                have i5 : (0 : Int) ≤ (j : Int) := by omega
                have i6 : (j : Int) < (n : Int) + 1 := by omega
                have i7 : (j : Int) < (n : Int) := by omega
                by_cases hz : karT n F j m = bot
                · have q1 : (karT n F j m == -1000000000000000) = true := by rw [hz]; rfl
                  have hT' : Hid (LeastS n F m (j + 1) c d gb) := hT.out.skip hz
                  clear hz x1 x2
                  go_wp2
                  go_roundw
                  case rel => exact ⟨j + 1, c, d, gb, hlt2, by go_num, rfl, hT', hq, hbb, hB⟩
                  case measure => simp [intOf]; omega
                · have q1 : (karT n F j m == -1000000000000000) = false := by simpa [bot] using hz
                  have hne2 : Hid (karT n F j m ≠ bot) := hz
                  clear hz
                  have hbd8 := q_bd hF.out hn2 hlt2 hlt hne.out hne2.out
                  obtain ⟨qn, hqn⟩ : ∃ qn, qn = qN n F m j := ⟨_, rfl⟩
                  obtain ⟨qd, hqd⟩ : ∃ qd, qd = qD n F m j := ⟨_, rfl⟩
                  have hq1 := Lib.hid hqn
                  have hq2' := Lib.hid hqd
                  have hQ : Hid (rzN (karT n F n m - karT n F j m) (n - j) = qn ∧ rzD (karT n F n m - karT n F j m) (n - j) = qd) := ⟨hqn.symm, hqd.symm⟩
                  rw [← hqn, ← hqd] at hbd8
                  obtain ⟨hbX, hbn, hbd7, hbd6⟩ := hbd8
                  obtain ⟨X, hX⟩ : ∃ X, karT n F n m = X := ⟨_, rfl⟩
                  obtain ⟨Y, hY⟩ : ∃ Y, karT n F j m = Y := ⟨_, rfl⟩
                  rw [hX] at x2 hbX hQ
                  rw [hY] at y2 hbX hQ q1
                  have hYH := Lib.hid hY
                  try rw [hX]
                  clear hX hY hqn hqd
                  have hwx : IntKind.i64.wrap (X - Y) = X - Y := IntWalk.i64_in _ (by omega)
                  have hwn : IntKind.i64.wrap ((n : Int) - (j : Int)) = ((n - j : Nat) : Int) := (IntWalk.i64_in _ (by omega)).trans (by omega)
                  go_wp2_with fail
                  have hXd : Below wr.heap.size wr wr.drew := Below.drew (Below.refl _ _)
                  replace hq := hq.now hXd
                  replace hbb := hbb.now hXd
                  replace hB := hB.trans (hXd.mono hB.size)
                  replace x1 := cell_keep x1 hXd
                  replace x2 := cell_keep x2 hXd
                  replace y1 := cell_keep y1 hXd
                  replace y2 := cell_keep y2 hXd
                  have hdz : wr.drew.heap.size = wr.heap.size := rfl
                  rw [← hdz] at hrb1 hrb2
                  refine wp_region_held_drew (S := fun w' => w'.cell? ⟨tb, to + n, none⟩ = some (.slice (some ⟨rb1, ro1, none⟩) n rc1) ∧ w'.cell? ⟨rb1, ro1 + m, none⟩ = some (.int .i64 X) ∧ w'.cell? ⟨tb, to + j, none⟩ = some (.slice (some ⟨rb2, ro2, none⟩) n rc2) ∧ w'.cell? ⟨rb2, ro2 + m, none⟩ = some (.int .i64 Y)) (by kernel_rfl) ⟨x1, x2, y1, y2⟩ (fun hH => ?_)
                  clear hXd hdz
                  generalize wr.drew = V0 at *
                  have hbV := hB.size
                  have htbV : tb < V0.heap.size := Nat.lt_of_lt_of_le htb hbV
                  refine tkH 0 (v := ?_) rfl (fun _ _ _ h => h) (Or.inl ⟨by rfl, ?_⟩) hH ?_
                  rotate_left
                  · intro w9 hSw
                    try dsimp only at hSw
                    obtain ⟨s0, s1, s2, s3⟩ := hSw
                    go_simp
                    try with_reducible rfl
                  try simp only [Act.put, List.setIfInBounds_toArray, List.set_cons_zero, List.set_cons_succ]
                  refine tkH 1 (v := ?_) rfl (fun _ _ _ h => h) (Or.inl ⟨by rfl, ?_⟩) hH ?_
                  rotate_left
                  · intro w9 hSw
                    try dsimp only at hSw
                    obtain ⟨s0, s1, s2, s3⟩ := hSw
                    go_simp
                    try with_reducible rfl
                  try simp only [Act.put, List.setIfInBounds_toArray, List.set_cons_zero, List.set_cons_succ]
                  refine tkH 2 (v := ?_) rfl (fun _ _ _ h => h) (Or.inl ⟨by rfl, ?_⟩) hH ?_
                  rotate_left
                  · intro w9 hSw
                    try dsimp only at hSw
                    obtain ⟨s0, s1, s2, s3⟩ := hSw
                    go_simp
                    try with_reducible rfl
                  try simp only [Act.put, List.setIfInBounds_toArray, List.set_cons_zero, List.set_cons_succ]
                  refine tkH 3 (v := ?_) rfl (fun _ _ _ h => h) (Or.inl ⟨by rfl, ?_⟩) hH ?_
                  rotate_left
                  · intro w9 hSw
                    try dsimp only at hSw
                    obtain ⟨s0, s1, s2, s3⟩ := hSw
                    go_simp
                    try with_reducible rfl
                  try simp only [Act.put, List.setIfInBounds_toArray, List.set_cons_zero, List.set_cons_succ]
                  refine tkH 4 (v := ?_) rfl (fun _ _ _ h => h) (Or.inl ⟨by rfl, ?_⟩) hH ?_
                  rotate_left
                  · intro w9 hSw
                    try dsimp only at hSw
                    obtain ⟨s0, s1, s2, s3⟩ := hSw
                    go_simp
                    try with_reducible rfl
                  try simp only [Act.put, List.setIfInBounds_toArray, List.set_cons_zero, List.set_cons_succ]
                  refine tkH 5 (v := ?_) rfl (fun _ _ _ h => h) (Or.inl ⟨by rfl, ?_⟩) hH ?_
                  rotate_left
                  · intro w9 hSw
                    try dsimp only at hSw
                    obtain ⟨s0, s1, s2, s3⟩ := hSw
                    go_simp
                    try with_reducible rfl
                  try simp only [Act.put, List.setIfInBounds_toArray, List.set_cons_zero, List.set_cons_succ]
                  refine tkH 6 (v := ?_) rfl (fun _ _ _ h => h) (Or.inl ⟨by rfl, ?_⟩) hH ?_
                  rotate_left
                  · intro w9 hSw
                    try dsimp only at hSw
                    obtain ⟨s0, s1, s2, s3⟩ := hSw
                    go_simp
                    try with_reducible rfl
                  try simp only [Act.put, List.setIfInBounds_toArray, List.set_cons_zero, List.set_cons_succ]
                  refine tkH 7 (v := ?_) rfl (fun _ _ _ h => h) (Or.inl ⟨by rfl, ?_⟩) hH ?_
                  rotate_left
                  · intro w9 hSw
                    try dsimp only at hSw
                    obtain ⟨s0, s1, s2, s3⟩ := hSw
                    go_simp
                    try with_reducible rfl
                  try simp only [Act.put, List.setIfInBounds_toArray, List.set_cons_zero, List.set_cons_succ]
                  refine tkH 8 (v := ?_) rfl (fun _ _ _ h => h) (Or.inl ⟨by rfl, ?_⟩) hH ?_
                  rotate_left
                  · intro w9 hSw
                    try dsimp only at hSw
                    obtain ⟨s0, s1, s2, s3⟩ := hSw
                    go_simp
                    try with_reducible rfl
                  try simp only [Act.put, List.setIfInBounds_toArray, List.set_cons_zero, List.set_cons_succ]
                  refine tkH 9 (v := ?_) rfl (fun _ _ _ h => h) (Or.inl ⟨by rfl, ?_⟩) hH ?_
                  rotate_left
                  · intro w9 hSw
                    try dsimp only at hSw
                    obtain ⟨s0, s1, s2, s3⟩ := hSw
                    go_simp
                    try with_reducible rfl
                  try simp only [Act.put, List.setIfInBounds_toArray, List.set_cons_zero, List.set_cons_succ]
                  refine tkH 10 (v := ?_) rfl (fun _ _ _ h => h) (Or.inl ⟨by rfl, ?_⟩) hH ?_
                  rotate_left
                  · intro w9 hSw
                    try dsimp only at hSw
                    obtain ⟨s0, s1, s2, s3⟩ := hSw
                    go_simp
                    try with_reducible rfl
                  try simp only [Act.put, List.setIfInBounds_toArray, List.set_cons_zero, List.set_cons_succ]
                  refine tkH 11 (v := ?_) rfl (fun _ _ _ h => h) (Or.inl ⟨by rfl, ?_⟩) hH ?_
                  rotate_left
                  · intro w9 hSw
                    try dsimp only at hSw
                    obtain ⟨s0, s1, s2, s3⟩ := hSw
                    go_simp
                    try with_reducible rfl
                  try simp only [Act.put, List.setIfInBounds_toArray, List.set_cons_zero, List.set_cons_succ]
                  refine tkH 12 (v := ?_) rfl (fun _ _ _ h => h) (Or.inl ⟨by rfl, ?_⟩) hH ?_
                  rotate_left
                  · intro w9 hSw
                    try dsimp only at hSw
                    obtain ⟨s0, s1, s2, s3⟩ := hSw
                    go_simp
                    try with_reducible rfl
                  try simp only [Act.put, List.setIfInBounds_toArray, List.set_cons_zero, List.set_cons_succ]
                  refine tkH 13 (v := ?_) rfl (fun _ _ _ h => h) (Or.inl ⟨by rfl, ?_⟩) hH ?_
                  rotate_left
                  · intro w9 hSw
                    try dsimp only at hSw
                    obtain ⟨s0, s1, s2, s3⟩ := hSw
                    go_simp
                    try with_reducible rfl
                  try simp only [Act.put, List.setIfInBounds_toArray, List.set_cons_zero, List.set_cons_succ]
                  refine tkH 14 (v := ?_) rfl (fun _ _ _ h => h) (Or.inl ⟨by rfl, ?_⟩) hH ?_
                  rotate_left
                  · intro w9 hSw
                    try dsimp only at hSw
                    obtain ⟨s0, s1, s2, s3⟩ := hSw
                    go_simp
                    try with_reducible rfl
                  try simp only [Act.put, List.setIfInBounds_toArray, List.set_cons_zero, List.set_cons_succ]
                  refine tkH 15 (v := ?_) rfl (fun _ _ _ h => h) (Or.inl ⟨by rfl, ?_⟩) hH ?_
                  rotate_left
                  · intro w9 hSw
                    try dsimp only at hSw
                    obtain ⟨s0, s1, s2, s3⟩ := hSw
                    go_simp
                    try with_reducible rfl
                  try simp only [Act.put, List.setIfInBounds_toArray, List.set_cons_zero, List.set_cons_succ]
                  refine tkH 16 (v := ?_) rfl (fun _ _ _ h => h) (Or.inl ⟨by rfl, ?_⟩) hH ?_
                  rotate_left
                  · intro w9 hSw
                    try dsimp only at hSw
                    obtain ⟨s0, s1, s2, s3⟩ := hSw
                    go_simp
                    try with_reducible rfl
                  try simp only [Act.put, List.setIfInBounds_toArray, List.set_cons_zero, List.set_cons_succ]
                  refine tkH 17 (v := ?_) rfl (fun _ _ _ h => h) (Or.inl ⟨by rfl, ?_⟩) hH ?_
                  rotate_left
                  · intro w9 hSw
                    try dsimp only at hSw
                    obtain ⟨s0, s1, s2, s3⟩ := hSw
                    go_simp
                    try with_reducible rfl
                  try simp only [Act.put, List.setIfInBounds_toArray, List.set_cons_zero, List.set_cons_succ]
                  refine wpAnyH_ready (rs := [18, 19]) (by kernel_rfl) (by simp) ?_
                  refine AllReadyH.cons rfl (fun K hK => ?_) (AllReadyH.cons rfl (fun K hK => ?_) AllReadyH.nil)
                  · go_simp
                    go_at_call 65
                    refine (impl_ratioOfZ (X - Y) (n - j) V0 (by omega) (by omega) (by omega)).mono ?_
                    rintro e5 w5 ⟨rfl, hBl⟩
                    rw [hQ.out.1, hQ.out.2]
                    have z1 := cell_keep x1 hBl
                    have z2 := cell_keep x2 hBl
                    have z3 := cell_keep y1 hBl
                    have z4 := cell_keep y2 hBl
                    replace hq := hq.now hBl
                    replace hbb := hbb.now hBl
                    replace hB := hB.trans (hBl.mono hbV)
                    clear x1 x2 y1 y2 hBl
                    refine hK.out _ _ ⟨z1, z2, z3, z4⟩ (fun hH => ?_)
                    clear hK K
                    try simp only [Act.put, List.setIfInBounds_toArray, List.set_cons_zero, List.set_cons_succ]
                    refine wpAnyH_ready (rs := [19]) (by kernel_rfl) (by simp) ?_
                    refine AllReadyH.cons rfl (fun K hK => ?_) AllReadyH.nil
                    go_simp
                    have hZ : Below w5.heap.size w5 (w5.alloc (.cells #[.int .i64 0, .int .i64 0] 37)) := (Below.refl _ _).alloc (Nat.le_refl _) _
                    have x1 := cell_keep z1 hZ
                    have x2 := cell_keep z2 hZ
                    have y1 := cell_keep z3 hZ
                    have y2 := cell_keep z4 hZ
                    clear hZ
                    refine hK.out _ _ ⟨x1, x2, y1, y2⟩ (fun hH => ?_)
                    clear hK K
                    try simp only [Act.put, List.setIfInBounds_toArray, List.set_cons_zero, List.set_cons_succ]
                    refine wpAnyH_ready (rs := [20]) (by kernel_rfl) (by simp) ?_
                    refine AllReadyH.cons rfl (fun K hK => ?_) AllReadyH.nil
                    clear x1 x2 y1 y2
                    go_simp
                    have hZ : Below w5.heap.size w5 (w5.alloc (.cells #[.int .i64 qn, .int .i64 qd] 37)) := (Below.refl _ _).alloc (Nat.le_refl _) _
                    have x1 := cell_keep z1 hZ
                    have x2 := cell_keep z2 hZ
                    have y1 := cell_keep z3 hZ
                    have y2 := cell_keep z4 hZ
                    refine hK.out _ _ ⟨x1, x2, y1, y2⟩ (fun hH => ?_)
                    clear hK K
                    try simp only [Act.put, List.setIfInBounds_toArray, List.set_cons_zero, List.set_cons_succ]
                    refine wpAnyH_done (by kernel_rfl) ?_ _
                    have hob : Blk (w5.alloc (.cells #[.int .i64 qn, .int .i64 qd] 37)) w5.heap.size 37 #[.int .i64 qn, .int .i64 qd] := Blk.newAt w5 _ rfl
                    have hol : lx ≠ w5.heap.size := Nat.ne_of_lt hq.lt
                    replace hq := hq.now hZ
                    replace hbb := hbb.now hZ
                    have hBz := hB.trans (hZ.mono hB.size)
                    clear x1 x2 y1 y2 z1 z2 z3 z4 hZ hB hH
                    generalize w5.heap.size = ob at *
                    generalize (w5.alloc (.cells #[.int .i64 qn, .int .i64 qd] 37)) = Z at *
                    cases gb
                    · have hT' : Hid (LeastS n F m (j + 1) qn qd true) := by have h9 := hT.out.take hF.out hn2 hlt hlt2 hne.out hne2.out (.inl rfl); rw [← hq1.out, ← hq2'.out] at h9; exact h9
                      obtain ⟨o0, o1⟩ := hob.c2
                      obtain ⟨k0, k1⟩ := hq.c2
                      obtain ⟨f0, f1⟩ := hq.f2
                      have ll := hq.lt
                      have hq2 := (hq.set2a (u := .int .i64 qn)).set2b (u := .int .i64 qd)
                      have hb2 := (hbb.far (p := ⟨lx, 0, none⟩) (by show w1.heap.size ≠ lx; omega) (.int .i64 qn)).far (p := ⟨lx, 1, none⟩) (by show w1.heap.size ≠ lx; omega) (.int .i64 qd)
                      have hB2 := (hBz.setCell (p := ⟨lx, 0, none⟩) (by show w1.heap.size ≤ lx; omega) (.int .i64 qn)).setCell (p := ⟨lx, 1, none⟩) (by show w1.heap.size ≤ lx; omega) (.int .i64 qd)
                      clear hq hbb hBz hob
                      go_wp2
                      go_roundw
                      case rel => exact ⟨j + 1, qn, qd, true, hlt2, by go_num, rfl, hT', hq2, hb2, hB2⟩
                      case measure => simp [intOf]; omega
                    · have hbd9 := hT.out.bd hF.out hn2 hlt hne.out
                      obtain ⟨o0, o1⟩ := hob.c2
                      obtain ⟨k0, k1⟩ := hq.c2
                      have hbz := hBz.size
                      go_wp2_with fail
                      refine (impl_compareRatiosZ qn qd c d _ (by omega) (by omega) (by omega) (by omega)).mono ?_
                      rintro e6 w6 ⟨rfl, hB6⟩
                      replace hob := hob.now hB6
                      replace hq := hq.now hB6
                      replace hbb := hbb.now hB6
                      replace hBz := hBz.trans (hB6.mono hbz)
                      clear o0 o1 k0 k1 hB6 hbz hbd9
                      by_cases hc : qn * d < c * qd
                      · have eC : cmpI (qn * d) (c * qd) = -1 := if_pos hc
                        rw [eC]
                        clear eC
                        have hT' : Hid (LeastS n F m (j + 1) qn qd true) := by have h9 := hT.out.take hF.out hn2 hlt hlt2 hne.out hne2.out (.inr (by rw [← hq1.out, ← hq2'.out]; exact hc)); rw [← hq1.out, ← hq2'.out] at h9; exact h9
                        obtain ⟨o0, o1⟩ := hob.c2
                        obtain ⟨k0, k1⟩ := hq.c2
                        obtain ⟨f0, f1⟩ := hq.f2
                        have ll := hq.lt
                        have hq2 := (hq.set2a (u := .int .i64 qn)).set2b (u := .int .i64 qd)
                        have hb2 := (hbb.far (p := ⟨lx, 0, none⟩) (by show w1.heap.size ≠ lx; omega) (.int .i64 qn)).far (p := ⟨lx, 1, none⟩) (by show w1.heap.size ≠ lx; omega) (.int .i64 qd)
                        have hB2 := (hBz.setCell (p := ⟨lx, 0, none⟩) (by show w1.heap.size ≤ lx; omega) (.int .i64 qn)).setCell (p := ⟨lx, 1, none⟩) (by show w1.heap.size ≤ lx; omega) (.int .i64 qd)
                        clear hq hbb hBz hob
                        go_wp2
                        go_roundw
                        case rel => exact ⟨j + 1, qn, qd, true, hlt2, by go_num, rfl, hT', hq2, hb2, hB2⟩
                        case measure => simp [intOf]; omega
                      · have eC : 0 ≤ cmpI (qn * d) (c * qd) := by unfold cmpI; rw [if_neg hc]; split <;> omega
                        generalize cmpI (qn * d) (c * qd) = cv at *
                        have q9 : decide (cv < 0) = false := decide_eq_false (by omega)
                        have hT' : Hid (LeastS n F m (j + 1) c d true) := hT.out.keep (by rw [← hq1.out, ← hq2'.out]; exact hc)
                        clear hob hc eC
                        go_wp2
                        go_roundw
                        case rel => exact ⟨j + 1, c, d, true, hlt2, by go_num, rfl, hT', hq, hbb, hBz⟩
                        case measure => simp [intOf]; omega
                  · go_simp
                    have hZ : Below V0.heap.size V0 (V0.alloc (.cells #[.int .i64 0, .int .i64 0] 37)) := (Below.refl _ _).alloc (Nat.le_refl _) _
                    have hob : Blk (V0.alloc (.cells #[.int .i64 0, .int .i64 0] 37)) V0.heap.size 37 #[.int .i64 0, .int .i64 0] := Blk.newAt V0 _ rfl
                    have hol : lx ≠ V0.heap.size := Nat.ne_of_lt hq.lt
                    have hbol : w1.heap.size ≠ V0.heap.size := Nat.ne_of_lt hbb.lt
                    have z1 := cell_keep x1 hZ
                    have z2 := cell_keep x2 hZ
                    have z3 := cell_keep y1 hZ
                    have z4 := cell_keep y2 hZ
                    replace hq := hq.now hZ
                    replace hbb := hbb.now hZ
                    replace hB := hB.trans (hZ.mono hbV)
                    have hbV1 := hB.size
                    clear x1 x2 y1 y2 hZ
                    refine hK.out _ _ ⟨z1, z2, z3, z4⟩ (fun hH => ?_)
                    clear hK K
                    try simp only [Act.put, List.setIfInBounds_toArray, List.set_cons_zero, List.set_cons_succ]
                    generalize V0.alloc (.cells #[.int .i64 0, .int .i64 0] 37) = V1 at *
                    obtain ⟨ob, hoe⟩ : ∃ ob, V0.heap.size = ob := ⟨_, rfl⟩
                    rw [hoe] at hob hol hbol hbV htbV hrb1 hrb2 ⊢
                    clear hoe
                    refine wpAnyH_ready (rs := [18]) (by kernel_rfl) (by simp) ?_
                    refine AllReadyH.cons rfl (fun K hK => ?_) AllReadyH.nil
                    go_simp
                    go_at_call 65
                    refine (impl_ratioOfZ (X - Y) (n - j) V1 (by omega) (by omega) (by omega)).mono ?_
                    rintro e5 w5 ⟨rfl, hBl⟩
                    rw [hQ.out.1, hQ.out.2]
                    have x1 := cell_keep z1 hBl
                    have x2 := cell_keep z2 hBl
                    have y1 := cell_keep z3 hBl
                    have y2 := cell_keep z4 hBl
                    replace hq := hq.now hBl
                    replace hbb := hbb.now hBl
                    replace hob := hob.now hBl
                    replace hB := hB.trans (hBl.mono hbV1)
                    clear z1 z2 z3 z4 hBl
                    refine hK.out _ _ ⟨x1, x2, y1, y2⟩ (fun hH => ?_)
                    clear hK K
                    try simp only [Act.put, List.setIfInBounds_toArray, List.set_cons_zero, List.set_cons_succ]
                    refine wpAnyH_ready (rs := [20]) (by kernel_rfl) (by simp) ?_
                    refine AllReadyH.cons rfl (fun K hK => ?_) AllReadyH.nil
                    obtain ⟨o0, o1⟩ := hob.c2
                    obtain ⟨g0, g1⟩ := hob.f2
                    have lo := hob.lt
                    have z1 : ((w5.setCell ⟨ob, 0, none⟩ (.int .i64 qn)).setCell ⟨ob, 1, none⟩ (.int .i64 qd)).cell? ⟨tb, to + n, none⟩ = some (.slice (some ⟨rb1, ro1, none⟩) n rc1) := ((World.cell?_setCell_far _ ⟨ob, 1, none⟩ ⟨tb, to + n, none⟩ _ (by show ob ≠ tb; omega)).trans (World.cell?_setCell_far _ ⟨ob, 0, none⟩ ⟨tb, to + n, none⟩ _ (by show ob ≠ tb; omega))).trans x1
                    have z2 : ((w5.setCell ⟨ob, 0, none⟩ (.int .i64 qn)).setCell ⟨ob, 1, none⟩ (.int .i64 qd)).cell? ⟨rb1, ro1 + m, none⟩ = some (.int .i64 X) := ((World.cell?_setCell_far _ ⟨ob, 1, none⟩ ⟨rb1, ro1 + m, none⟩ _ (by show ob ≠ rb1; omega)).trans (World.cell?_setCell_far _ ⟨ob, 0, none⟩ ⟨rb1, ro1 + m, none⟩ _ (by show ob ≠ rb1; omega))).trans x2
                    have z3 : ((w5.setCell ⟨ob, 0, none⟩ (.int .i64 qn)).setCell ⟨ob, 1, none⟩ (.int .i64 qd)).cell? ⟨tb, to + j, none⟩ = some (.slice (some ⟨rb2, ro2, none⟩) n rc2) := ((World.cell?_setCell_far _ ⟨ob, 1, none⟩ ⟨tb, to + j, none⟩ _ (by show ob ≠ tb; omega)).trans (World.cell?_setCell_far _ ⟨ob, 0, none⟩ ⟨tb, to + j, none⟩ _ (by show ob ≠ tb; omega))).trans y1
                    have z4 : ((w5.setCell ⟨ob, 0, none⟩ (.int .i64 qn)).setCell ⟨ob, 1, none⟩ (.int .i64 qd)).cell? ⟨rb2, ro2 + m, none⟩ = some (.int .i64 Y) := ((World.cell?_setCell_far _ ⟨ob, 1, none⟩ ⟨rb2, ro2 + m, none⟩ _ (by show ob ≠ rb2; omega)).trans (World.cell?_setCell_far _ ⟨ob, 0, none⟩ ⟨rb2, ro2 + m, none⟩ _ (by show ob ≠ rb2; omega))).trans y2
                    go_simp
                    refine hK.out _ _ ⟨z1, z2, z3, z4⟩ (fun hH => ?_)
                    clear hK K
                    try simp only [Act.put, List.setIfInBounds_toArray, List.set_cons_zero, List.set_cons_succ]
                    refine wpAnyH_done (by kernel_rfl) ?_ _
                    replace hq := (hq.far (p := ⟨ob, 0, none⟩) (by show lx ≠ ob; omega) (.int .i64 qn)).far (p := ⟨ob, 1, none⟩) (by show lx ≠ ob; omega) (.int .i64 qd)
                    replace hbb := (hbb.far (p := ⟨ob, 0, none⟩) (by show w1.heap.size ≠ ob; omega) (.int .i64 qn)).far (p := ⟨ob, 1, none⟩) (by show w1.heap.size ≠ ob; omega) (.int .i64 qd)
                    have hBz := (hB.setCell (p := ⟨ob, 0, none⟩) hbV (.int .i64 qn)).setCell (p := ⟨ob, 1, none⟩) hbV (.int .i64 qd)
                    replace hob := (hob.set2a (u := .int .i64 qn)).set2b (u := .int .i64 qd)
                    clear x1 x2 y1 y2 z1 z2 z3 z4 o0 o1 g0 g1 lo hB hH
                    generalize ((w5.setCell ⟨ob, 0, none⟩ (.int .i64 qn)).setCell ⟨ob, 1, none⟩ (.int .i64 qd)) = Z at *
                    cases gb
                    · have hT' : Hid (LeastS n F m (j + 1) qn qd true) := by have h9 := hT.out.take hF.out hn2 hlt hlt2 hne.out hne2.out (.inl rfl); rw [← hq1.out, ← hq2'.out] at h9; exact h9
                      obtain ⟨o0, o1⟩ := hob.c2
                      obtain ⟨k0, k1⟩ := hq.c2
                      obtain ⟨f0, f1⟩ := hq.f2
                      have ll := hq.lt
                      have hq2 := (hq.set2a (u := .int .i64 qn)).set2b (u := .int .i64 qd)
                      have hb2 := (hbb.far (p := ⟨lx, 0, none⟩) (by show w1.heap.size ≠ lx; omega) (.int .i64 qn)).far (p := ⟨lx, 1, none⟩) (by show w1.heap.size ≠ lx; omega) (.int .i64 qd)
                      have hB2 := (hBz.setCell (p := ⟨lx, 0, none⟩) (by show w1.heap.size ≤ lx; omega) (.int .i64 qn)).setCell (p := ⟨lx, 1, none⟩) (by show w1.heap.size ≤ lx; omega) (.int .i64 qd)
                      clear hq hbb hBz hob
                      go_wp2
                      go_roundw
                      case rel => exact ⟨j + 1, qn, qd, true, hlt2, by go_num, rfl, hT', hq2, hb2, hB2⟩
                      case measure => simp [intOf]; omega
                    · have hbd9 := hT.out.bd hF.out hn2 hlt hne.out
                      obtain ⟨o0, o1⟩ := hob.c2
                      obtain ⟨k0, k1⟩ := hq.c2
                      have hbz := hBz.size
                      go_wp2_with fail
                      refine (impl_compareRatiosZ qn qd c d _ (by omega) (by omega) (by omega) (by omega)).mono ?_
                      rintro e6 w6 ⟨rfl, hB6⟩
                      replace hob := hob.now hB6
                      replace hq := hq.now hB6
                      replace hbb := hbb.now hB6
                      replace hBz := hBz.trans (hB6.mono hbz)
                      clear o0 o1 k0 k1 hB6 hbz hbd9
                      by_cases hc : qn * d < c * qd
                      · have eC : cmpI (qn * d) (c * qd) = -1 := if_pos hc
                        rw [eC]
                        clear eC
                        have hT' : Hid (LeastS n F m (j + 1) qn qd true) := by have h9 := hT.out.take hF.out hn2 hlt hlt2 hne.out hne2.out (.inr (by rw [← hq1.out, ← hq2'.out]; exact hc)); rw [← hq1.out, ← hq2'.out] at h9; exact h9
                        obtain ⟨o0, o1⟩ := hob.c2
                        obtain ⟨k0, k1⟩ := hq.c2
                        obtain ⟨f0, f1⟩ := hq.f2
                        have ll := hq.lt
                        have hq2 := (hq.set2a (u := .int .i64 qn)).set2b (u := .int .i64 qd)
                        have hb2 := (hbb.far (p := ⟨lx, 0, none⟩) (by show w1.heap.size ≠ lx; omega) (.int .i64 qn)).far (p := ⟨lx, 1, none⟩) (by show w1.heap.size ≠ lx; omega) (.int .i64 qd)
                        have hB2 := (hBz.setCell (p := ⟨lx, 0, none⟩) (by show w1.heap.size ≤ lx; omega) (.int .i64 qn)).setCell (p := ⟨lx, 1, none⟩) (by show w1.heap.size ≤ lx; omega) (.int .i64 qd)
                        clear hq hbb hBz hob
                        go_wp2
                        go_roundw
                        case rel => exact ⟨j + 1, qn, qd, true, hlt2, by go_num, rfl, hT', hq2, hb2, hB2⟩
                        case measure => simp [intOf]; omega
                      · have eC : 0 ≤ cmpI (qn * d) (c * qd) := by unfold cmpI; rw [if_neg hc]; split <;> omega
                        generalize cmpI (qn * d) (c * qd) = cv at *
                        have q9 : decide (cv < 0) = false := decide_eq_false (by omega)
                        have hT' : Hid (LeastS n F m (j + 1) c d true) := hT.out.keep (by rw [← hq1.out, ← hq2'.out]; exact hc)
                        clear hob hc eC
                        go_wp2
                        go_roundw
                        case rel => exact ⟨j + 1, c, d, true, hlt2, by go_num, rfl, hT', hq, hbb, hBz⟩
                        case measure => simp [intOf]; omega
              · obtain rfl : n = j := by omega
                obtain rfl : gb = true := hT.out.found hn
                have hcd := hT.out.bd hF.out hn2 hlt hne.out
                obtain ⟨k0, k1⟩ := hq.c2
                obtain ⟨r0, r1⟩ := hbb.c2
                have hbz := hB.size
                cases fb
                · have hS' : Hid (MeanS n F (m + 1) c d true) := hS.out.take hF.out hn2 hlt hne.out hT.out (.inl rfl)
                  obtain ⟨f0, f1⟩ := hbb.f2
                  have lb := hbb.lt
                  have hb2 := (hbb.set2a (u := .int .i64 c)).set2b (u := .int .i64 d)
                  have hB2 := (hB.setCell (p := ⟨w1.heap.size, 0, none⟩) (Nat.le_refl _) (.int .i64 c)).setCell (p := ⟨w1.heap.size, 1, none⟩) (Nat.le_refl _) (.int .i64 d)
                  clear hbb hB hq
                  go_wp2
                  go_roundw
                  case rel => exact ⟨m + 1, c, d, true, hlt, by go_num, rfl, hS', fun h => (by cases h), hb2, hB2⟩
                  case measure => simp [intOf]; omega
                · have hab := hS.out.bd hF.out hn2
                  go_wp2_with fail
                  refine (impl_compareRatiosZ c d a b _ (by omega) (by omega) (by omega) (by omega)).mono ?_
                  rintro e6 w6 ⟨rfl, hB6⟩
                  replace hq := hq.now hB6
                  replace hbb := hbb.now hB6
                  replace hB := hB.trans (hB6.mono hbz)
                  clear k0 k1 r0 r1 hB6 hbz
                  by_cases hc : a * d < c * b
                  · have eC : cmpI (c * b) (a * d) = 1 := by unfold cmpI; rw [if_neg (by omega), if_pos hc]
                    rw [eC]
                    clear eC
                    have hS' : Hid (MeanS n F (m + 1) c d true) := hS.out.take hF.out hn2 hlt hne.out hT.out (.inr hc)
                    obtain ⟨k0, k1⟩ := hq.c2
                    obtain ⟨r0, r1⟩ := hbb.c2
                    obtain ⟨f0, f1⟩ := hbb.f2
                    have lb := hbb.lt
                    have hb2 := (hbb.set2a (u := .int .i64 c)).set2b (u := .int .i64 d)
                    have hB2 := (hB.setCell (p := ⟨w1.heap.size, 0, none⟩) (Nat.le_refl _) (.int .i64 c)).setCell (p := ⟨w1.heap.size, 1, none⟩) (Nat.le_refl _) (.int .i64 d)
                    clear hbb hB hq hc
                    go_wp2
                    go_roundw
                    case rel => exact ⟨m + 1, c, d, true, hlt, by go_num, rfl, hS', fun h => (by cases h), hb2, hB2⟩
                    case measure => simp [intOf]; omega
                  · have eC : cmpI (c * b) (a * d) ≤ 0 := by unfold cmpI; split <;> (try split) <;> omega
                    generalize cmpI (c * b) (a * d) = cv at *
                    have q9 : decide (0 < cv) = false := decide_eq_false (by omega)
                    have hS' : Hid (MeanS n F (m + 1) a b true) := hS.out.keep hT.out hc
                    clear hc eC
                    go_wp2
                    go_roundw
                    case rel => exact ⟨m + 1, a, b, true, hlt, by go_num, rfl, hS', hZ, hbb, hB⟩
                    case measure => simp [intOf]; omega
        · obtain rfl : n = m := by omega
          have hbxr := hbx.now hB
          obtain ⟨k0, k1⟩ := hbb.c2
          obtain ⟨x0, x1⟩ := hbxr.c2
          obtain ⟨z0, z1⟩ := hbxr.f2
          have lx := hbxr.lt
          have r0 := ((hbxr.set2a (u := .int .i64 a)).set2b (u := .int .i64 b)).c2
          have hBf := ((hW1.trans (hB.mono hW1.size)).setCell (p := ⟨w.heap.size, 0, none⟩) (Nat.le_refl _) (.int .i64 a)).setCell (p := ⟨w.heap.size, 1, none⟩) (Nat.le_refl _) (.int .i64 b)
          clear hbxr
          go_wp2
          refine bodyPost_ret (v := .tuple #[.agg #[.int .i64 a, .int .i64 b], .bool fb]) (by simp [results, Try.results43, go_sem, r0.1, r0.2]) rfl ?_
          exact ⟨a, b, fb, rfl, hS.out, hZ.out, hBf⟩
set_option maxHeartbeats 4000000 in
set_option maxRecDepth 100000 in
theorem impl_CycleMean (u : Value) (n : Nat) (F : Nat → Nat → Int) (A B C : Int) (w : World) (h1 : LstM w w.heap.size u (matF n F n)) (hn : 1 ≤ n) (hn2 : n ≤ 10) (hF : Hid (finM n 11000 F))
    (hG : Hid (∀ a b f, MeanS n F n a b f → (f = false ∧ A = 0 ∧ B = 0 ∧ C = 4) ∨ (f = true ∧ A = a ∧ B = b ∧ C = 0 ∧ ratioOk a b = true))) :
    Calls Try.prog 17 #[u] w fun e w' => e = .returned (.tuple #[.agg #[.int .i64 A, .int .i64 B], .int .i64 C]) ∧ Below w.heap.size w w' := by
  have hp := mat_vals hF.out (by omega)
  go_enter Try.func17, Try.ntmps17
  go_wp2_with fail
  have hW : Below w.heap.size w (w.alloc (.cells #[.int .i64 0, .int .i64 0] 37)) := ((Below.refl _ _).alloc (Nat.le_refl _) _); have hb0 : Blk (w.alloc (.cells #[.int .i64 0, .int .i64 0] 37)) (w.heap.size) 37 #[.int .i64 0, .int .i64 0] := (Blk.newAt w _ (by first | rfl | (simp; done) | (simp; omega))); replace h1 := h1.now hW; have hsW : w.heap.size + 1 = (w.alloc (.cells #[.int .i64 0, .int .i64 0] 37)).heap.size := (by first | rfl | (simp; done) | (simp; omega)); generalize (w.alloc (.cells #[.int .i64 0, .int .i64 0] 37)) = W at *; replace hsW := Lib.hid hsW
  refine (impl_isSquareV _ n F _ h1 hn hn2 hp).mono ?_
  rintro e w1 ⟨rfl, hB⟩
  replace hW := hW.trans (hB.mono hW.size); replace h1 := h1.now hB; replace hb0 := hb0.now hB
  clear hB
  go_wp2_with fail
  refine (impl_cycleMean _ n F _ h1 hn hn2 hF).mono ?_
  rintro e w2 ⟨a, b, f, rfl, hS, hZ, hB⟩
  replace hW := hW.trans (hB.mono hW.size); replace hb0 := hb0.now hB
  clear hB h1
  have hA : Below w2.heap.size w2 (w2.alloc (.cells #[.int .i64 a, .int .i64 b] 37)) := (Below.refl _ _).alloc (Nat.le_refl _) _
  have hb1 : Blk (w2.alloc (.cells #[.int .i64 a, .int .i64 b] 37)) w2.heap.size 37 #[.int .i64 a, .int .i64 b] := Blk.newAt w2 _ rfl
  have hl0 := hb0.lt
  rcases hG.out a b f hS with ⟨rfl, rfl, rfl, rfl⟩ | ⟨rfl, rfl, rfl, rfl, hok⟩
  · clear hS hG
    obtain ⟨v0, v1⟩ := hb0.c2
    obtain ⟨z0, z1⟩ := hb0.f2
    have l0 := hb0.lt
    have hne : ¬ w2.heap.size = w.heap.size := by omega
    have hne' : ¬ w.heap.size = w2.heap.size := by omega
    have r0 := (((hb0.set2a (u := .int .i64 0)).set2b (u := .int .i64 0)).alloc (.cells #[.int .i64 0, .int .i64 0] 37)).c2
    have hWs := hW.size
    have hBf := ((hW.setCell (p := ⟨w.heap.size, 0, none⟩) (Nat.le_refl _) (.int .i64 0)).setCell (p := ⟨w.heap.size, 1, none⟩) (Nat.le_refl _) (.int .i64 0)).alloc (by simp; omega) (.cells #[.int .i64 0, .int .i64 0] 37)
    go_wp2
    refine bodyPost_ret (v := .tuple #[.agg #[.int .i64 0, .int .i64 0], .int .i64 4]) (by simp only [results, Try.results17, go_sem, r0.1, r0.2]; simp [go_sem, r0.1, r0.2]) rfl ⟨rfl, hBf⟩
  · clear hS hG
    obtain ⟨y0, y1⟩ := hb1.c2
    replace hW := hW.trans (hA.mono hW.size)
    replace hb0 := hb0.now hA
    go_wp2_with fail
    generalize w2.alloc (.cells #[.int .i64 A, .int .i64 B] 37) = V at *
    refine (impl_checkedRatioV A B _ hok).mono ?_
    rintro e w3 ⟨rfl, hB⟩
    replace hW := hW.trans (hB.mono hW.size); replace hb0 := hb0.now hB
    clear hB y0 y1 hb1
    obtain ⟨x0, x1⟩ := hb0.c2
    obtain ⟨z0, z1⟩ := hb0.f2
    have l0 := hb0.lt
    have r0 := ((hb0.set2a (u := .int .i64 A)).set2b (u := .int .i64 B)).c2
    go_wp2
    refine bodyPost_ret (v := .tuple #[.agg #[.int .i64 A, .int .i64 B], .int .i64 0]) (by simp [results, Try.results17, go_sem, r0.1, r0.2]) rfl ⟨rfl, ?_⟩
    first | exact hW | exact (hW.setCell (by simp <;> omega) _).setCell (by simp <;> omega) _
end Go.Proofs.Ytcoomogabicfnaa
