/-
  The walks of TimePotential, the program's and the reference's.
-/
import Derived.Test.YtickecljchccoaaStarT
import Derived.Test.YtickecljchccoaaStarD
namespace Go.Proofs.Ytickecljchccoaa
open Go.RowKit
set_option linter.unusedVariables false
set_option linter.unusedSimpArgs false
def okR (r : List Int) : Bool := r.all fun x => decide (x ≤ 1000000)
theorem inB_fin {x : Int} (hx : 0 ≤ x) : inB x (-1000000) 1000000 = decide (x ≤ 1000000) := by
  unfold inB
  rw [show decide ((-1000000 : Int) ≤ x) = true by simp; omega, Bool.true_and]
theorem okR_all {l : List Int} (h : ∀ x ∈ l, 0 ≤ x) : okR l = allB l (-1000000) 1000000 := by
  unfold okR allB
  induction l with
  | nil => rfl
  | cons a l ih =>
    simp only [List.all_cons]
    rw [ih (fun x hx => h x (by simp [hx])), inB_fin (h a (by simp))]
def itOkB (n : Nat) (F : Nat → Nat → Int) : Bool := (List.range n).all fun i => (List.range n).all fun j => decide (itF n F (n + 1) i j = itF n F n i j)
theorem itOkB_iff {n : Nat} {F : Nat → Nat → Int} : itOkB n F = true ↔ itOk n F := by
  simp only [itOkB, List.all_eq_true, List.mem_range, decide_eq_true_eq]
  exact ⟨fun h i j hi hj => h i hi j hj, fun h i hi j hj => h i j hi hj⟩
def potXs (n : Nat) (gp : List Place) (a b : Int) : List Int := (List.range n).map (appF n (itF n (wgtF (wgt a b) gp) n) (fun _ => 0))
def potF (ge : Int) (gp : List Place) (a b : Int) : List Int × Int :=
  if okGraph ge gp = false then ([], 1) else if ratioOk a b = false then ([], 1) else if itOkB ge.toNat (wgtF (wgt a b) gp) = false then ([], 5) else if okR (potXs ge.toNat gp a b) then (potXs ge.toNat gp a b, 0) else ([], 3)
theorem potF_len (ge : Int) (gp : List Place) (a b : Int) : (potF ge gp a b).1.length ≤ 1048576 := by
  unfold potF
  cases hg : okGraph ge gp
  · simp
  · obtain ⟨h1, h2⟩ := okGraph_ev hg
    simp only [Bool.true_eq_false, if_false]
    split
    · simp
    · split
      · simp
      · split
        · simp [potXs]; omega
        · simp
theorem wgt_fin {ge : Int} {gp : List Place} {a b : Int} (hg : okGraph ge gp = true) (hr : ratioOk a b = true) (n : Nat) : finM n 2000000000 (wgtF (wgt a b) gp) := by
  obtain ⟨ha, hb⟩ := ratioOk_in hr
  intro i j _ _
  refine wgtF_fin (wgt a b) (by omega) gp (fun p hp => ?_) i j
  have h := okGraph_place hg hp
  obtain ⟨⟨m1, m2⟩, n1, n2⟩ := wgt_le (p := p) ha hb h.2.2.1 h.2.2.2
  unfold wgt
  omega
theorem zeros_map (n : Nat) : List.replicate n (0 : Int) = (List.range n).map (fun _ => (0 : Int)) := by simp [List.map_const']
theorem potXs_nonneg {n : Nat} {S : Nat → Nat → Int} (h : ∀ i, i < n → 0 ≤ S i i) : ∀ x ∈ (List.range n).map (appF n S (fun _ => 0)), 0 ≤ x := by
  intro x hx
  obtain ⟨i, hi, rfl⟩ := List.mem_map.1 hx
  have hi := List.mem_range.1 hi
  have h1 := sumT_ge n (fun k => tms (S i k) 0) i hi
  have h2 := h i hi
  show 0 ≤ sumT n fun k => tms (S i k) 0
  simp only [tms_zero] at h1
  have h3 := h i hi
  exact Int.le_trans h3 (by simpa only [tms_zero] using h1)
set_option maxHeartbeats 400000 in
set_option maxRecDepth 100000 in
theorem impl_IsValueN (x : Int) (w : World) (hx : 0 ≤ x) : Calls Try.prog 184 #[.int .i64 x] w fun r w' => r = .returned (.bool (decide (x ≤ 1000000))) ∧ w = w' := by
  have q1 : (x == -1000000000000000) = false := by simp; omega
  have hF := Lib.hid (inB_fin hx)
  go_enter Try.func184, Try.ntmps184
  go_wp2_with (go_at_call 144; refine (impl_isFinite _ _).mono ?_; rintro e w' ⟨rfl, rfl⟩; rw [hF.out])
  go_ret
  exact ⟨rfl, rfl⟩
set_option maxHeartbeats 400000 in
set_option maxRecDepth 100000 in
theorem impl_areValues1 (x : Int) (w : World) (hx : 0 ≤ x) : Calls Try.prog 183 #[.int .i64 x] w fun r w' => r = .returned (.bool (!decide (x ≤ 1000000))) ∧ w = w' := by
  go_enter Try.func183, Try.ntmps183
  go_wp2_with (go_at_call 184; refine (impl_IsValueN _ _ hx).mono ?_; rintro e w' ⟨rfl, rfl⟩)
  go_ret
  exact ⟨rfl, rfl⟩
set_option maxHeartbeats 1000000 in
set_option maxRecDepth 100000 in
theorem areV_index (v : Value) (l : List Int) (w : World) (h0 : Lst intCell 1 w w.heap.size v l) (hp : Hid (∀ x ∈ l, 0 ≤ x)) :
    Calls Try.prog 198 #[v, .func (.func 183) #[] #[]] w fun r w' => r = .returned (.int .i64 (idxP (fun x => !decide (x ≤ 1000000)) l)) ∧ w = w' := by
  obtain ⟨A, cA, rfl⟩ := h0.shape
  have hl := h0.len_le
  have hcl := Lib.hid (fun x hx => impl_areValues1 x w hx)
  go_enter Try.func198, Try.ntmps198
  go_wp2
  go_loop [5, 8] (fun _ i => ∃ k : Nat, k ≤ l.length ∧ i = .int .i64 k ∧ Hid (∀ j (hj : j < k) (hl : j < l.length), (!decide (l[j] ≤ 1000000)) = false)) (fun _ i => l.length - (intOf i).toNat)
  case atStart => exact ⟨0, Nat.zero_le _, rfl, fun j hj => absurd hj (by omega)⟩
  case round =>
    obtain ⟨k, hk, rfl, hN⟩ := hrel
    by_cases hlt : k < l.length
    · obtain ⟨b, off, hA, -, d0⟩ := ints_at h0 k hlt
      cases hA
      have hx := hp.out _ (List.getElem_mem hlt)
      cases heq : (!decide (l[k] ≤ 1000000))
      · have hN' : Hid (∀ j (hj : j < k + 1) (hl : j < l.length), (!decide (l[j] ≤ 1000000)) = false) := by
          intro j hj hl2
          rcases Nat.lt_or_ge j k with h | h
          · exact hN.out j h hl2
          · obtain rfl : j = k := by omega
            exact heq
        have heH := Lib.hid heq
        clear heq
        go_wp2_with (go_at_call 183; refine (hcl.out _ hx).mono ?_; rintro e w1 ⟨rfl, rfl⟩; rw [heH.out])
        go_round
        case rel => exact ⟨k + 1, hlt, by go_num, hN'⟩
        case measure => simp [intOf]; omega
      · have hF : Hid (idxP (fun x => !decide (x ≤ 1000000)) l = k) := idxP_hit (fun x => !decide (x ≤ 1000000)) l k hlt (fun j hj => hN.out j hj (by omega)) heq
        have heH := Lib.hid heq
        clear heq
        go_wp2_with (go_at_call 183; refine (hcl.out _ hx).mono ?_; rintro e w1 ⟨rfl, rfl⟩; rw [heH.out])
        go_ret
        exact ⟨ret_int hF.out.symm, rfl⟩
    · obtain rfl : k = l.length := by omega
      have hF : Hid (idxP (fun x => !decide (x ≤ 1000000)) l = -1) := idxP_miss (fun x => !decide (x ≤ 1000000)) l fun j hj => hN.out j hj hj
      go_wp2
      go_ret
      exact ⟨ret_int hF.out.symm, rfl⟩
theorem okR_any (l : List Int) : (!(l.any fun x => !decide (x ≤ 1000000))) = okR l := by
  unfold okR
  induction l with
  | nil => rfl
  | cons a l ih => simp only [List.any_cons, List.all_cons, Bool.not_or, Bool.not_not, ih]
set_option maxHeartbeats 400000 in
set_option maxRecDepth 100000 in
theorem areV_contains (v : Value) (l : List Int) (w : World) (h0 : Lst intCell 1 w w.heap.size v l) (hp : Hid (∀ x ∈ l, 0 ≤ x)) :
    Calls Try.prog 182 #[v, .func (.func 183) #[] #[]] w fun r w' => r = .returned (.bool (l.any fun x => !decide (x ≤ 1000000))) ∧ w = w' := by
  go_enter Try.func182, Try.ntmps182
  go_wp2_with (go_at_call 198; refine (areV_index _ _ _ h0 hp).mono ?_; rintro e w1 ⟨rfl, rfl⟩)
  go_ret
  exact ⟨ret_bool (idxP_any _ _), rfl⟩
set_option maxHeartbeats 400000 in
set_option maxRecDepth 100000 in
theorem impl_areValues (v : Value) (l : List Int) (w : World) (h0 : Lst intCell 1 w w.heap.size v l) (hp : Hid (∀ x ∈ l, 0 ≤ x)) :
    Calls Try.prog 150 #[v] w fun r w' => r = .returned (.bool (okR l)) ∧ w = w' := by
  go_enter Try.func150, Try.ntmps150
  go_wp2_with (go_at_call 182; refine (areV_contains _ _ _ h0 hp).mono ?_; rintro e w1 ⟨rfl, rfl⟩)
  go_ret
  exact ⟨ret_bool (okR_any l), rfl⟩
set_option maxHeartbeats 400000 in
set_option maxRecDepth 100000 in
theorem impl_checkedVector (A : Option Addr) (n c : Nat) (l : List Int) (w : World) (h0 : Lst intCell 1 w w.heap.size (.slice A n c) l) (hp : Hid (∀ x ∈ l, 0 ≤ x)) :
    Calls Try.prog 98 #[.slice A n c] w fun r w' => r = .returned (.tuple #[if okR l then .slice A n c else .slice none 0 0, .int .i64 (if okR l then 0 else 3)]) ∧ w = w' := by
  cases hk : okR l
  · have hkH := Lib.hid hk
    clear hk
    go_enter Try.func98, Try.ntmps98
    go_wp2_with (go_at_call 150; refine (impl_areValues _ _ _ h0 hp).mono ?_; rintro e w1 ⟨rfl, rfl⟩; rw [hkH.out])
    go_ret2
    exact ⟨rfl, rfl⟩
  · have hkH := Lib.hid hk
    clear hk
    go_enter Try.func98, Try.ntmps98
    go_wp2_with (go_at_call 150; refine (impl_areValues _ _ _ h0 hp).mono ?_; rintro e w1 ⟨rfl, rfl⟩; rw [hkH.out])
    go_ret2
    exact ⟨rfl, rfl⟩
set_option maxHeartbeats 4000000 in
set_option maxRecDepth 100000 in
theorem impl_timePotential (v : Value) (n : Nat) (gp : List Place) (a b : Int) (w : World) (h0 : Lst Place.cells 4 w w.heap.size v gp) (hg : Hid (okGraph n gp = true)) (hr : Hid (ratioOk a b = true)) :
    Calls Try.prog 97 #[.agg #[.int .i64 n, v], .agg #[.int .i64 a, .int .i64 b]] w fun e w' => ∃ u ok, e = .returned (.tuple #[u, .bool ok]) ∧ (ok = true ↔ itOkB n (wgtF (wgt a b) gp) = true) ∧ (ok = true → Own intCell 1 2 w' w.heap.size u (potXs n gp a b)) ∧ Below w.heap.size w w' := by
  obtain ⟨A, c, rfl⟩ := h0.shape
  obtain ⟨hn1, hn2⟩ := okGraph_ev hg.out
  obtain ⟨ha, hb⟩ := ratioOk_in hr.out
  have hF := Lib.hid (wgt_fin hg.out hr.out n)
  have hmk2 := run_make_lst (P := Try.prog) intCell 1 intCell_len (by omega) (0 : Int) 51 2 _ 8 Try.underlying51 info_i64 rfl .i64 .i64 n (by omega) (by omega)
  have hm3 := fun w => (hmk2 w).1
  have hm4 := Lib.hid (fun w base h => (hmk2 w).2 base h)
  clear hmk2
  go_enter Try.func97, Try.ntmps97
  go_wp2_with fail
  have hW : Below w.heap.size w ((w.alloc (.cells #[.int .i64 (n : Int), .slice A gp.length c] 31)).alloc (.cells #[.int .i64 a, .int .i64 b] 54)) := (((Below.refl _ _).alloc (Nat.le_refl _) _).alloc (by first | (simp; done) | (simp; omega)) _); have hb0 : Blk ((w.alloc (.cells #[.int .i64 (n : Int), .slice A gp.length c] 31)).alloc (.cells #[.int .i64 a, .int .i64 b] 54)) (w.heap.size) 31 #[.int .i64 (n : Int), .slice A gp.length c] := ((Blk.newAt w _ (by first | rfl | (simp; done) | (simp; omega))).alloc _); have hb1 : Blk ((w.alloc (.cells #[.int .i64 (n : Int), .slice A gp.length c] 31)).alloc (.cells #[.int .i64 a, .int .i64 b] 54)) (w.heap.size + 1) 54 #[.int .i64 a, .int .i64 b] := (Blk.newAt (w.alloc (.cells #[.int .i64 (n : Int), .slice A gp.length c] 31)) _ (by first | rfl | (simp; done) | (simp; omega))); replace h0 := h0.now hW; have hsW : w.heap.size + 2 = ((w.alloc (.cells #[.int .i64 (n : Int), .slice A gp.length c] 31)).alloc (.cells #[.int .i64 a, .int .i64 b] 54)).heap.size := (by first | rfl | (simp; done) | (simp; omega)); generalize ((w.alloc (.cells #[.int .i64 (n : Int), .slice A gp.length c] 31)).alloc (.cells #[.int .i64 a, .int .i64 b] 54)) = W at *; replace hsW := Lib.hid hsW
  obtain ⟨k0, k1⟩ := hb0.c2
  obtain ⟨r0, r1⟩ := hb1.c2
  refine (impl_weightMatrix _ n gp a b W h0 hg.out ha hb).mono ?_
  rintro e w1 ⟨u1, rfl, hM, hB1⟩
  obtain ⟨A1, c1, rfl⟩ := hM.shape
  rw [matF_len] at hM ⊢
  clear hm3 k0 k1 r0 r1
  go_wp2_with fail
  refine (impl_starOf _ n _ 2000000000 w1 hM.lst (by omega) (by omega) hF (by omega) (by omega)).mono ?_
  rintro e w2 ⟨u2, ok, rfl, hiff, hS, hB2⟩
  have hfi : Hid (ok = true ↔ itOkB n (wgtF (wgt a b) gp) = true) := by
    show _ ↔ _
    rw [hiff, itOkB_iff]
    exact star_ok hF.out (by omega) (by omega) (by omega)
  have hBt := hW.trans ((hB1.trans (hB2.mono hB1.size)).mono hW.size)
  cases ok
  · clear hiff hS
    go_wp2
    go_ret2
    exact ⟨_, false, rfl, hfi.out, fun h => (by cases h), hBt⟩
  · have hfw : fwOk n (wgtF (wgt a b) gp) := hiff.1 rfl
    have hO := hS rfl
    have hok : itOk n (wgtF (wgt a b) gp) := itOkB_iff.1 (hfi.out.1 rfl)
    have heq := star_eq hF.out (by omega) (by omega) (by omega) hok
    rw [matF_congr (n := n) (m := n) heq] at hO
    obtain ⟨A2, c2, rfl⟩ := hO.shape
    rw [matF_len] at hO ⊢
    have hbS : Hid (bnd n (itF n (wgtF (wgt a b) gp) n)) := it_bnd hF.out (by omega) (by omega) (by omega) n (by omega)
    have hXs : Hid ((List.range n).map (appF n (itF n (wgtF (wgt a b) gp) n) (fun _ => 0)) = potXs n gp a b) := rfl
    have hbW := (hb0.now hB1).now hB2
    obtain ⟨k0, k1⟩ := hbW.c2
    have l0 := hbW.lt
    clear hiff hS hfw hok heq
    have hmk := hm4.out w2 w2.heap.size (Nat.le_refl _)
    rw [zeros_map, Nat.mul_one] at hmk
    have hmkH := Lib.hid hmk
    clear hmk
    have hA2 : Below w2.heap.size w2 (w2.alloc (.cells (madeCells (intCell 0).toArray n) 2)) := (Below.refl _ _).alloc (Nat.le_refl _) _
    have hm3 := fun W => (run_make_lst (P := Try.prog) intCell 1 intCell_len (by omega) (0 : Int) 51 2 _ 8 Try.underlying51 info_i64 rfl .i64 .i64 n (by omega) (by omega) W).1
    go_wp2_with (go_at_call 149; refine (impl_timesVector _ _ n (itF n (wgtF (wgt a b) gp) n) (fun _ => 0) _ (hO.now hA2).lst hmkH.out.lst hbS (fun k _ => by omega) (by omega) (by omega)).mono ?_; rintro e w3 ⟨u3, rfl, hX, hB3⟩)
    go_ret2
    refine ⟨_, true, rfl, by simpa using hfi.out, fun _ => ?_, hBt.trans ((hA2.trans (hB3.mono hA2.size)).mono hBt.size)⟩
    rw [← hXs.out]
    exact hX.rebase (Nat.le_trans hBt.size hA2.size)
set_option maxHeartbeats 4000000 in
set_option maxRecDepth 100000 in
theorem impl_TimePotential (v : Value) (ge : Int) (gp : List Place) (a b : Int) (w : World) (h0 : Lst Place.cells 4 w w.heap.size v gp) :
    Calls Try.prog 36 #[.agg #[.int .i64 ge, v], .agg #[.int .i64 a, .int .i64 b]] w (RetOwnI intCell 1 2 w (potF ge gp a b).1 (potF ge gp a b).2) := by
  obtain ⟨A, c, rfl⟩ := h0.shape
  go_enter Try.func36, Try.ntmps36
  go_wp2_with fail
  have hW : Below w.heap.size w ((w.alloc (.cells #[.int .i64 ge, .slice A gp.length c] 31)).alloc (.cells #[.int .i64 a, .int .i64 b] 54)) := (((Below.refl _ _).alloc (Nat.le_refl _) _).alloc (by first | (simp; done) | (simp; omega)) _); have hb0 : Blk ((w.alloc (.cells #[.int .i64 ge, .slice A gp.length c] 31)).alloc (.cells #[.int .i64 a, .int .i64 b] 54)) (w.heap.size) 31 #[.int .i64 ge, .slice A gp.length c] := ((Blk.newAt w _ (by first | rfl | (simp; done) | (simp; omega))).alloc _); have hb1 : Blk ((w.alloc (.cells #[.int .i64 ge, .slice A gp.length c] 31)).alloc (.cells #[.int .i64 a, .int .i64 b] 54)) (w.heap.size + 1) 54 #[.int .i64 a, .int .i64 b] := (Blk.newAt (w.alloc (.cells #[.int .i64 ge, .slice A gp.length c] 31)) _ (by first | rfl | (simp; done) | (simp; omega))); replace h0 := h0.now hW; have hsW : w.heap.size + 2 = ((w.alloc (.cells #[.int .i64 ge, .slice A gp.length c] 31)).alloc (.cells #[.int .i64 a, .int .i64 b] 54)).heap.size := (by first | rfl | (simp; done) | (simp; omega)); generalize ((w.alloc (.cells #[.int .i64 ge, .slice A gp.length c] 31)).alloc (.cells #[.int .i64 a, .int .i64 b] 54)) = W at *; replace hsW := Lib.hid hsW
  refine (impl_IsEventGraph _ _ _ _ h0).mono ?_
  rintro e w1 ⟨rfl, hB⟩
  replace hW := hW.trans (hB.mono hW.size); replace h0 := h0.now hB; replace hb0 := hb0.now hB; replace hb1 := hb1.now hB
  clear hB
  obtain ⟨k0, k1⟩ := hb0.c2
  obtain ⟨r0, r1⟩ := hb1.c2
  cases hg : okGraph ge gp
  · have hE : Hid (potF ge gp a b = ([], 1)) := by show _ = _; unfold potF; rw [if_pos hg]
    clear hg
    go_wp2
    go_ret2
    exact RetOwnI.of hE.out ⟨_, rfl, Own.nil, hW⟩
  · obtain ⟨hn1, hn2⟩ := okGraph_ev hg
    obtain ⟨n, rfl⟩ := Int.eq_ofNat_of_zero_le (show 0 ≤ ge by omega)
    have hg' := Lib.hid hg
    clear hg
    go_wp2_with fail
    refine (impl_IsRatio _ _ _).mono ?_
    rintro e w2 ⟨rfl, hB⟩
    clear k0 k1 r0 r1
    replace hW := hW.trans (hB.mono hW.size); replace h0 := h0.now hB; replace hb0 := hb0.now hB; replace hb1 := hb1.now hB
    clear hB
    obtain ⟨k0, k1⟩ := hb0.c2
    obtain ⟨r0, r1⟩ := hb1.c2
    cases hr : ratioOk a b
    · have hE : Hid (potF n gp a b = ([], 1)) := by show _ = _; unfold potF; rw [if_neg (by rw [hg'.out]; simp), if_pos hr]
      clear hr
      go_wp2
      go_ret2
      exact RetOwnI.of hE.out ⟨_, rfl, Own.nil, hW⟩
    · have hr' := Lib.hid hr
      clear hr
      have hE0 : Hid (potF n gp a b = if itOkB n (wgtF (wgt a b) gp) = false then ([], 5) else if okR (potXs n gp a b) then (potXs n gp a b, 0) else ([], 3)) := by show _ = _; unfold potF; rw [if_neg (by rw [hg'.out]; simp), if_neg (by rw [hr'.out]; simp), Int.toNat_natCast]
      go_wp2_with fail
      refine (impl_timePotential _ n gp a b _ h0 hg' hr').mono ?_
      rintro e w3 ⟨u3, ok, rfl, hiff, hX, hB⟩
      have hBt := hW.trans (hB.mono hW.size)
      cases ok
      · have hE : Hid (potF n gp a b = ([], 5)) := by show _ = _; rw [hE0.out, if_pos (by rw [← Bool.not_eq_true, ← hiff]; simp)]
        clear hiff hX
        go_wp2
        go_ret2
        exact RetOwnI.of hE.out ⟨_, rfl, Own.nil, hBt⟩
      · have hit : itOkB n (wgtF (wgt a b) gp) = true := hiff.1 rfl
        have hO := hX rfl
        have hnn : Hid (∀ x ∈ potXs n gp a b, 0 ≤ x) := potXs_nonneg (it_sol (wgt_fin hg'.out hr'.out n) (by omega) (by omega) (by omega) (itOkB_iff.1 hit)).1
        have hE1 : Hid (potF n gp a b = if okR (potXs n gp a b) then (potXs n gp a b, 0) else ([], 3)) := by show _ = _; rw [hE0.out, if_neg (by rw [hit]; simp)]
        clear hiff hX hit
        obtain ⟨A3, c3, rfl⟩ := hO.shape
        cases hk : okR (potXs n gp a b)
        · have hE : Hid (potF n gp a b = ([], 3)) := by show _ = _; rw [hE1.out, hk]; rfl
          have hC := Lib.hid (fun (W : World) (h : Lst intCell 1 W W.heap.size (.slice A3 (potXs n gp a b).length c3) (potXs n gp a b)) => impl_checkedVector A3 _ c3 (potXs n gp a b) W h hnn)
          simp only [hk, Bool.false_eq_true, if_false] at hC
          clear hk
          go_wp2_with (go_at_call 98; refine (hC.out _ hO.lst).mono ?_; rintro e w4 ⟨rfl, rfl⟩)
          go_ret2
          exact RetOwnI.of hE.out ⟨_, rfl, Own.nil, hBt⟩
        · have hE : Hid (potF n gp a b = (potXs n gp a b, 0)) := by show _ = _; rw [hE1.out, hk]; rfl
          have hC := Lib.hid (fun (W : World) (h : Lst intCell 1 W W.heap.size (.slice A3 (potXs n gp a b).length c3) (potXs n gp a b)) => impl_checkedVector A3 _ c3 (potXs n gp a b) W h hnn)
          simp only [hk, if_true] at hC
          clear hk
          go_wp2_with (go_at_call 98; refine (hC.out _ hO.lst).mono ?_; rintro e w4 ⟨rfl, rfl⟩)
          go_ret2
          exact RetOwnI.of hE.out ⟨_, rfl, hO.rebase hW.size, hBt⟩
set_option maxHeartbeats 4000000 in
set_option maxRecDepth 100000 in
theorem spec_TimePotential (v : Value) (ge : Int) (gp : List Place) (a b : Int) (w : World) (h0 : Lst Place.cells 4 w w.heap.size v gp) :
    Calls Try.prog 34 #[.agg #[.int .i64 ge, v], .agg #[.int .i64 a, .int .i64 b]] w (RetOwnI intCell 1 2 w (potF ge gp a b).1 (potF ge gp a b).2) := by
  obtain ⟨A, c, rfl⟩ := h0.shape
  go_enter Try.func34, Try.ntmps34
  go_wp2_with fail
  have hW : Below w.heap.size w ((w.alloc (.cells #[.int .i64 ge, .slice A gp.length c] 31)).alloc (.cells #[.int .i64 a, .int .i64 b] 54)) := (((Below.refl _ _).alloc (Nat.le_refl _) _).alloc (by first | (simp; done) | (simp; omega)) _); have hb0 : Blk ((w.alloc (.cells #[.int .i64 ge, .slice A gp.length c] 31)).alloc (.cells #[.int .i64 a, .int .i64 b] 54)) (w.heap.size) 31 #[.int .i64 ge, .slice A gp.length c] := ((Blk.newAt w _ (by first | rfl | (simp; done) | (simp; omega))).alloc _); have hb1 : Blk ((w.alloc (.cells #[.int .i64 ge, .slice A gp.length c] 31)).alloc (.cells #[.int .i64 a, .int .i64 b] 54)) (w.heap.size + 1) 54 #[.int .i64 a, .int .i64 b] := (Blk.newAt (w.alloc (.cells #[.int .i64 ge, .slice A gp.length c] 31)) _ (by first | rfl | (simp; done) | (simp; omega))); replace h0 := h0.now hW; have hsW : w.heap.size + 2 = ((w.alloc (.cells #[.int .i64 ge, .slice A gp.length c] 31)).alloc (.cells #[.int .i64 a, .int .i64 b] 54)).heap.size := (by first | rfl | (simp; done) | (simp; omega)); generalize ((w.alloc (.cells #[.int .i64 ge, .slice A gp.length c] 31)).alloc (.cells #[.int .i64 a, .int .i64 b] 54)) = W at *; replace hsW := Lib.hid hsW
  refine (spec_IsEventGraph _ _ _ _ h0).mono ?_
  rintro e w1 ⟨rfl, hB⟩
  replace hW := hW.trans (hB.mono hW.size); replace h0 := h0.now hB; replace hb0 := hb0.now hB; replace hb1 := hb1.now hB
  clear hB
  obtain ⟨k0, k1⟩ := hb0.c2
  obtain ⟨r0, r1⟩ := hb1.c2
  cases hg : okGraph ge gp
  · have hE : Hid (potF ge gp a b = ([], 1)) := by show _ = _; unfold potF; rw [if_pos hg]
    clear hg
    go_wp2
    go_ret2
    exact RetOwnI.of hE.out ⟨_, rfl, Own.nil, hW⟩
  · obtain ⟨hn1, hn2⟩ := okGraph_ev hg
    obtain ⟨n, rfl⟩ := Int.eq_ofNat_of_zero_le (show 0 ≤ ge by omega)
    have hg' := Lib.hid hg
    clear hg
    go_wp2_with fail
    refine (spec_IsRatio _ _ _).mono ?_
    rintro e w2 ⟨rfl, hB⟩
    clear k0 k1 r0 r1
    replace hW := hW.trans (hB.mono hW.size); replace h0 := h0.now hB; replace hb0 := hb0.now hB; replace hb1 := hb1.now hB
    clear hB
    obtain ⟨k0, k1⟩ := hb0.c2
    obtain ⟨r0, r1⟩ := hb1.c2
    cases hr : ratioOk a b
    · have hE : Hid (potF n gp a b = ([], 1)) := by show _ = _; unfold potF; rw [if_neg (by rw [hg'.out]; simp), if_pos hr]
      clear hr
      go_wp2
      go_ret2
      exact RetOwnI.of hE.out ⟨_, rfl, Own.nil, hW⟩
    · have hr' := Lib.hid hr
      clear hr
      have hE0 : Hid (potF n gp a b = if itOkB n (wgtF (wgt a b) gp) = false then ([], 5) else if okR (potXs n gp a b) then (potXs n gp a b, 0) else ([], 3)) := by show _ = _; unfold potF; rw [if_neg (by rw [hg'.out]; simp), if_neg (by rw [hr'.out]; simp), Int.toNat_natCast]
      obtain ⟨ha, hb⟩ := ratioOk_in hr'.out
      have hF := Lib.hid (wgt_fin hg'.out hr'.out n)
      have hm4 := Lib.hid (fun w base h => (run_make_lst (P := Try.prog) intCell 1 intCell_len (by omega) (0 : Int) 51 2 _ 8 Try.underlying51 info_i64 rfl .i64 .i64 n (by omega) (by omega) w).2 base h)
      go_wp2_with fail
      refine (spec_l15Weights _ n gp a b _ h0 hg'.out ha hb).mono ?_
      rintro e w3 ⟨u1, rfl, hM, hB1⟩
      obtain ⟨A1, c1, rfl⟩ := hM.shape
      rw [matF_len] at hM ⊢
      go_wp2_with fail
      refine (spec_l03Star _ n _ 2000000000 w3 hM.lst (by omega) (by omega) hF (by omega) (by omega)).mono ?_
      rintro e w4 ⟨u2, ok, rfl, hiff, hO, hB2⟩
      have hBt := hW.trans ((hB1.trans (hB2.mono hB1.size)).mono hW.size)
      rw [← itOkB_iff] at hiff
      cases ok
      · have hE : Hid (potF n gp a b = ([], 5)) := by show _ = _; rw [hE0.out, if_pos (by rw [← Bool.not_eq_true, ← hiff]; simp)]
        clear hiff hO
        go_wp2
        go_ret2
        exact RetOwnI.of hE.out ⟨_, rfl, Own.nil, hBt⟩
      · have hit : itOkB n (wgtF (wgt a b) gp) = true := hiff.1 rfl
        have hnn : Hid (∀ x ∈ potXs n gp a b, 0 ≤ x) := potXs_nonneg (it_sol hF.out (by omega) (by omega) (by omega) (itOkB_iff.1 hit)).1
        have hE1 : Hid (potF n gp a b = if okR (potXs n gp a b) then (potXs n gp a b, 0) else ([], 3)) := by show _ = _; rw [hE0.out, if_neg (by rw [hit]; simp)]
        have hbS : Hid (bnd n (itF n (wgtF (wgt a b) gp) n)) := it_bnd hF.out (by omega) (by omega) (by omega) n (by omega)
        have hXs : Hid ((List.range n).map (appF n (itF n (wgtF (wgt a b) gp) n) (fun _ => 0)) = potXs n gp a b) := rfl
        have hal : Hid (okR (potXs n gp a b) = allB (potXs n gp a b) (-1000000) 1000000) := okR_all hnn.out
        clear hiff hit k0 k1 r0 r1
        obtain ⟨A2, c2, rfl⟩ := hO.shape
        rw [matF_len] at hO ⊢
        have hbW := (hb0.now hB1).now hB2
        obtain ⟨k0, k1⟩ := hbW.c2
        have l0 := hbW.lt
        have hmk := hm4.out w4 w4.heap.size (Nat.le_refl _)
        rw [zeros_map, Nat.mul_one] at hmk
        have hmkH := Lib.hid hmk
        clear hmk
        have hA2 : Below w4.heap.size w4 (w4.alloc (.cells (madeCells (intCell 0).toArray n) 2)) := (Below.refl _ _).alloc (Nat.le_refl _) _
        have hm3 := fun W => (run_make_lst (P := Try.prog) intCell 1 intCell_len (by omega) (0 : Int) 51 2 _ 8 Try.underlying51 info_i64 rfl .i64 .i64 n (by omega) (by omega) W).1
        go_wp2_with (go_at_call 94; refine (spec_l02Apply _ _ n (itF n (wgtF (wgt a b) gp) n) (fun _ => 0) _ (hO.now hA2).lst hmkH.out.lst hbS (fun k _ => by omega) (by omega) (by omega)).mono ?_; rintro e w5 ⟨u5, rfl, hX, hB3⟩; rw [hXs.out] at hX; obtain ⟨A5, c5, rfl⟩ := hX.shape)
        have hBn := hBt.trans ((hA2.trans (hB3.mono hA2.size)).mono hBt.size)
        have hXr := hX.rebase (Nat.le_trans hBt.size hA2.size)
        refine (spec_l01AllF _ _ _ hX.lst).mono ?_
        rintro e w6 ⟨rfl, rfl⟩
        rw [← hal.out]
        cases hk : okR (potXs n gp a b)
        · have hE : Hid (potF n gp a b = ([], 3)) := by show _ = _; rw [hE1.out, hk]; rfl
          clear hk
          go_wp2
          go_ret2
          exact RetOwnI.of hE.out ⟨_, rfl, Own.nil, hBn⟩
        · have hE : Hid (potF n gp a b = (potXs n gp a b, 0)) := by show _ = _; rw [hE1.out, hk]; rfl
          clear hk
          go_wp2
          go_ret2
          exact RetOwnI.of hE.out ⟨_, rfl, hXr, hBn⟩
end Go.Proofs.Ytickecljchccoaa
