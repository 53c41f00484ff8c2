/-
  StartedTimes, both.
-/
import Derived.Test.YtpkkkigiiaegfaaTimT
namespace Go.Proofs.Ytpkkkigiiaegfaa
open Go.RowKit
set_option linter.unusedVariables false
set_option linter.unusedSimpArgs false

def okR (r : List Int) : Bool := r.all fun x => decide (x ≤ 1000000)
def okV (T : List (List Int)) : Bool := T.all okR
/-- What StartedTimes gives. -/
def startF (ge : Int) (gp : List Place) (N : Int) (s : List Int) : List (List Int) × Int :=
  if timC ge gp (inB N 0 50 && decide ((s.length : Int) = ge) && allB s 0 1000000) = 0 then
    (if okV (timT gp ((orderF ge.toNat gp).getD []) s N.toNat) = true then (timT gp ((orderF ge.toNat gp).getD []) s N.toNat, 0) else ([], 3))
  else ([], timC ge gp (inB N 0 50 && decide ((s.length : Int) = ge) && allB s 0 1000000))
theorem startF_offs (ge : Int) (gp : List Place) (N : Int) (s : List Int) : offs (startF ge gp N s).1 (startF ge gp N s).1.length ≤ 1048576 := by
  unfold startF
  split
  · rename_i h
    split
    · obtain ⟨hg, hb, o, ho⟩ := timC_zero h
      obtain ⟨h1, h2⟩ := okGraph_ev hg
      simp only [Bool.and_eq_true, decide_eq_true_eq] at hb
      have h3 := (inB_iff _ _ _).1 hb.1.1
      obtain ⟨n, rfl⟩ := Int.eq_ofNat_of_zero_le (show 0 ≤ ge by omega)
      rw [Int.toNat_natCast] at ho ⊢
      rw [ho]
      have hT := TabOk.times (c := 1000000) hg (okGraph_len hg) (o := o) (s := s) (by have := (orderK_ok n o ho).len; omega) (show s.length = n by omega) (fun x hx => by have := (inB_iff _ _ _).1 (List.all_eq_true.1 hb.2 x hx); omega) N.toNat
      show offs (timT gp o s N.toNat) (timT gp o s N.toNat).length ≤ 1048576
      rw [offs_tab hT _ (Nat.le_refl _), hT.len]
      exact Nat.le_trans (Nat.mul_le_mul (show n ≤ 10 by omega) (show N.toNat ≤ 50 by omega)) (by decide)
    · simp [offs]
  · simp [offs]
theorem inB_fin {x : Int} (hx : 0 ≤ x) : inB x (-1000000) 1000000 = decide (x ≤ 1000000) := by
  unfold inB
  rw [show decide ((-1000000 : Int) ≤ x) = true by simp; omega, Bool.true_and]
set_option maxHeartbeats 400000 in
set_option maxRecDepth 100000 in
theorem impl_isFinite (x : Int) (w : World) : Calls Try.prog 190 #[.int .i64 x] w fun r w' => r = .returned (.bool (inB x (-1000000) 1000000)) ∧ w = w' := by
  go_enter Try.func190, Try.ntmps190
  go_wp2_with (go_at_call 148; refine (impl_within _ _ _ _).mono ?_; rintro e w' ⟨rfl, rfl⟩)
  go_ret
  exact ⟨rfl, rfl⟩
set_option maxHeartbeats 400000 in
set_option maxRecDepth 100000 in
theorem impl_IsValue (x : Int) (w : World) (hx : 0 ≤ x) : Calls Try.prog 241 #[.int .i64 x] w fun r w' => r = .returned (.bool (decide (x ≤ 1000000))) ∧ w = w' := by
  have q1 : (x == -1000000000000000) = false := by simp; omega
  have hF := Lib.hid (inB_fin hx)
  go_enter Try.func241, Try.ntmps241
  go_wp2_with (go_at_call 190; refine (impl_isFinite _ _).mono ?_; rintro e w' ⟨rfl, rfl⟩; rw [hF.out])
  go_ret
  exact ⟨rfl, rfl⟩
set_option maxHeartbeats 400000 in
set_option maxRecDepth 100000 in
theorem spec_l01Finite (x : Int) (w : World) : Calls Try.prog 184 #[.int .i64 x] w fun r w' => r = .returned (.bool (inB x (-1000000) 1000000)) ∧ w = w' := by
  go_enter Try.func184, Try.ntmps184
  go_wp2_with (go_at_call 113; refine (spec_l01In _ _ _ _).mono ?_; rintro e w' ⟨rfl, rfl⟩)
  go_ret
  exact ⟨rfl, rfl⟩
set_option maxHeartbeats 400000 in
set_option maxRecDepth 100000 in
theorem spec_IsValue (x : Int) (w : World) (hx : 0 ≤ x) : Calls Try.prog 215 #[.int .i64 x] w fun r w' => r = .returned (.bool (decide (x ≤ 1000000))) ∧ w = w' := by
  have q1 : (x == -1000000000000000) = false := by simp; omega
  have hF := Lib.hid (inB_fin hx)
  go_enter Try.func215, Try.ntmps215
  go_wp2_with (go_at_call 184; refine (spec_l01Finite _ _).mono ?_; rintro e w' ⟨rfl, rfl⟩; rw [hF.out])
  go_ret
  exact ⟨rfl, rfl⟩
set_option maxHeartbeats 1000000 in
set_option maxRecDepth 100000 in
theorem spec_l01All (v : Value) (l : List Int) (w : World) (h0 : Lst intCell 1 w w.heap.size v l) (hp : Hid (∀ x ∈ l, 0 ≤ x)) :
    Calls Try.prog 152 #[v, .bool true] w fun r w' => r = .returned (.bool (okR l)) ∧ w = w' := by
  obtain ⟨A, c, rfl⟩ := h0.shape
  have hl := h0.len_le
  go_enter Try.func152, Try.ntmps152
  go_wp2
  go_loop [5] (fun i => ∃ k : Nat, k ≤ l.length ∧ i = .int .i64 k ∧ Hid (∀ j (hj : j < k) (hl : j < l.length), l[j] ≤ 1000000)) (fun i => l.length - (intOf i).toNat)
  case atStart => exact ⟨0, Nat.zero_le _, rfl, fun j hj => absurd hj (by omega)⟩
  case round =>
    obtain ⟨k, hk, rfl, hN⟩ := hrel
    by_cases hlt : k < l.length
    · obtain ⟨b, off, hA, -, d0⟩ := ints_at h0 k hlt
      cases hA
      have hx := hp.out _ (List.getElem_mem hlt)
      obtain ⟨x, hxe⟩ : ∃ x, l[k] = x := ⟨_, rfl⟩
      rw [hxe] at d0 hx
      have hxH := Lib.hid hxe
      clear hxe
      by_cases hb : x ≤ 1000000
      · have q1 : decide (x ≤ 1000000) = true := decide_eq_true hb
        have q2 : (x == -1000000000000000) = false := by simp; omega
        have hN' : Hid (∀ j (hj : j < k + 1) (hl : j < l.length), l[j] ≤ 1000000) := by
          intro j hj hl2
          rcases Nat.lt_or_ge j k with h | h
          · exact hN.out j h hl2
          · obtain rfl : j = k := by omega
            rw [hxH.out]; exact hb
        clear hb
        go_wp2_with (go_at_call 215; refine (spec_IsValue _ _ hx).mono ?_; rintro e w1 ⟨rfl, rfl⟩; rw [q1])
        go_round
        case rel => exact ⟨k + 1, hlt, by go_num, hN'⟩
        case measure => simp [intOf]; omega
      · have q1 : decide (x ≤ 1000000) = false := decide_eq_false hb
        have hF : Hid (okR l = false) := by
          show _ = _
          unfold okR
          rw [List.all_eq_false]
          exact ⟨l[k], List.getElem_mem hlt, by rw [hxH.out]; simpa using hb⟩
        clear hb
        go_wp2_with (go_at_call 215; refine (spec_IsValue _ _ hx).mono ?_; rintro e w1 ⟨rfl, rfl⟩; rw [q1])
        go_ret
        exact ⟨ret_bool hF.out.symm, rfl⟩
    · obtain rfl : k = l.length := by omega
      have hF : Hid (okR l = true) := by
        show _ = _
        unfold okR
        rw [List.all_eq_true]
        intro y hy
        obtain ⟨j, hj, rfl⟩ := List.mem_iff_getElem.1 hy
        simpa using hN.out j hj hj
      go_wp2
      go_ret
      exact ⟨ret_bool hF.out.symm, rfl⟩
set_option maxHeartbeats 400000 in
set_option maxRecDepth 100000 in
theorem impl_areValues1 (x : Int) (w : World) (hx : 0 ≤ x) : Calls Try.prog 240 #[.int .i64 x] w fun r w' => r = .returned (.bool (!decide (x ≤ 1000000))) ∧ w = w' := by
  go_enter Try.func240, Try.ntmps240
  go_wp2_with (go_at_call 241; refine (impl_IsValue _ _ hx).mono ?_; rintro e w' ⟨rfl, rfl⟩)
  go_ret
  exact ⟨rfl, rfl⟩
set_option maxHeartbeats 1000000 in
set_option maxRecDepth 100000 in
theorem areV_index (v : Value) (l : List Int) (w : World) (h0 : Lst intCell 1 w w.heap.size v l) (hp : Hid (∀ x ∈ l, 0 ≤ x)) :
    Calls Try.prog 251 #[v, .func (.func 240) #[] #[]] w fun r w' => r = .returned (.int .i64 (idxP (fun x => !decide (x ≤ 1000000)) l)) ∧ w = w' := by
  obtain ⟨A, cA, rfl⟩ := h0.shape
  have hl := h0.len_le
  have hcl := Lib.hid (fun x hx => impl_areValues1 x w hx)
  go_enter Try.func251, Try.ntmps251
  go_wp2
  go_loop [5, 8] (fun _ i => ∃ k : Nat, k ≤ l.length ∧ i = .int .i64 k ∧ Hid (∀ j (hj : j < k) (hl : j < l.length), (!decide (l[j] ≤ 1000000)) = false)) (fun _ i => l.length - (intOf i).toNat)
  case atStart => exact ⟨0, Nat.zero_le _, rfl, fun j hj => absurd hj (by omega)⟩
  case round =>
    obtain ⟨k, hk, rfl, hN⟩ := hrel
    by_cases hlt : k < l.length
    · obtain ⟨b, off, hA, -, d0⟩ := ints_at h0 k hlt
      cases hA
      have hx := hp.out _ (List.getElem_mem hlt)
      cases heq : (!decide (l[k] ≤ 1000000))
      · have hN' : Hid (∀ j (hj : j < k + 1) (hl : j < l.length), (!decide (l[j] ≤ 1000000)) = false) := by
          intro j hj hl2
          rcases Nat.lt_or_ge j k with h | h
          · exact hN.out j h hl2
          · obtain rfl : j = k := by omega
            exact heq
        have heH := Lib.hid heq
        clear heq
        go_wp2_with (go_at_call 240; refine (hcl.out _ hx).mono ?_; rintro e w1 ⟨rfl, rfl⟩; rw [heH.out])
        go_round
        case rel => exact ⟨k + 1, hlt, by go_num, hN'⟩
        case measure => simp [intOf]; omega
      · have hF : Hid (idxP (fun x => !decide (x ≤ 1000000)) l = k) := idxP_hit (fun x => !decide (x ≤ 1000000)) l k hlt (fun j hj => hN.out j hj (by omega)) heq
        have heH := Lib.hid heq
        clear heq
        go_wp2_with (go_at_call 240; refine (hcl.out _ hx).mono ?_; rintro e w1 ⟨rfl, rfl⟩; rw [heH.out])
        go_ret
        exact ⟨ret_int hF.out.symm, rfl⟩
    · obtain rfl : k = l.length := by omega
      have hF : Hid (idxP (fun x => !decide (x ≤ 1000000)) l = -1) := idxP_miss (fun x => !decide (x ≤ 1000000)) l fun j hj => hN.out j hj hj
      go_wp2
      go_ret
      exact ⟨ret_int hF.out.symm, rfl⟩
theorem okR_any (l : List Int) : (!(l.any fun x => !decide (x ≤ 1000000))) = okR l := by
  unfold okR
  induction l with
  | nil => rfl
  | cons a l ih => simp only [List.any_cons, List.all_cons, Bool.not_or, Bool.not_not, ih]
set_option maxHeartbeats 400000 in
set_option maxRecDepth 100000 in
theorem areV_contains (v : Value) (l : List Int) (w : World) (h0 : Lst intCell 1 w w.heap.size v l) (hp : Hid (∀ x ∈ l, 0 ≤ x)) :
    Calls Try.prog 239 #[v, .func (.func 240) #[] #[]] w fun r w' => r = .returned (.bool (l.any fun x => !decide (x ≤ 1000000))) ∧ w = w' := by
  go_enter Try.func239, Try.ntmps239
  go_wp2_with (go_at_call 251; refine (areV_index _ _ _ h0 hp).mono ?_; rintro e w1 ⟨rfl, rfl⟩)
  go_ret
  exact ⟨ret_bool (idxP_any _ _), rfl⟩
set_option maxHeartbeats 400000 in
set_option maxRecDepth 100000 in
theorem impl_areValues (v : Value) (l : List Int) (w : World) (h0 : Lst intCell 1 w w.heap.size v l) (hp : Hid (∀ x ∈ l, 0 ≤ x)) :
    Calls Try.prog 214 #[v] w fun r w' => r = .returned (.bool (okR l)) ∧ w = w' := by
  go_enter Try.func214, Try.ntmps214
  go_wp2_with (go_at_call 239; refine (areV_contains _ _ _ h0 hp).mono ?_; rintro e w1 ⟨rfl, rfl⟩)
  go_ret
  exact ⟨ret_bool (okR_any l), rfl⟩
set_option maxHeartbeats 400000 in
set_option maxRecDepth 100000 in
theorem impl_checkedMatrix1 (v : Value) (l : List Int) (w : World) (h0 : Lst intCell 1 w w.heap.size v l) (hp : Hid (∀ x ∈ l, 0 ≤ x)) :
    Calls Try.prog 213 #[v] w fun r w' => r = .returned (.bool (!okR l)) ∧ w = w' := by
  go_enter Try.func213, Try.ntmps213
  go_wp2_with (go_at_call 214; refine (impl_areValues _ _ _ h0 hp).mono ?_; rintro e w1 ⟨rfl, rfl⟩)
  go_ret
  exact ⟨rfl, rfl⟩
set_option maxHeartbeats 1000000 in
set_option maxRecDepth 100000 in
theorem chkM_index (v : Value) (T : List (List Int)) (w : World) (h0 : LstM w w.heap.size v T) (hp : Hid (∀ r ∈ T, ∀ x ∈ r, 0 ≤ x)) :
    Calls Try.prog 238 #[v, .func (.func 213) #[] #[]] w fun r w' => r = .returned (.int .i64 (idxP (fun r => !okR r) T)) ∧ w = w' := by
  obtain ⟨A, cA, rfl⟩ := h0.shape
  have hl := h0.len_le
  go_enter Try.func238, Try.ntmps238
  go_wp2
  go_loop [5, 8] (fun _ i => ∃ k : Nat, k ≤ T.length ∧ i = .int .i64 k ∧ Hid (∀ j (hj : j < k) (hl : j < T.length), (!okR T[j]) = false)) (fun _ i => T.length - (intOf i).toNat)
  case atStart => exact ⟨0, Nat.zero_le _, rfl, fun j hj => absurd hj (by omega)⟩
  case round =>
    obtain ⟨k, hk, rfl, hN⟩ := hrel
    by_cases hlt : k < T.length
    · obtain ⟨b, off, cr, r, hA, -, d0, hr⟩ := h0.row k hlt
      cases hA
      obtain ⟨R, rc, hv⟩ := hr.shape
      rw [hv] at d0 hr
      have hpr := Lib.hid (hp.out _ (List.getElem_mem hlt))
      cases heq : (!okR T[k])
      · have hN' : Hid (∀ j (hj : j < k + 1) (hl : j < T.length), (!okR T[j]) = false) := by
          intro j hj hl2
          rcases Nat.lt_or_ge j k with h | h
          · exact hN.out j h hl2
          · obtain rfl : j = k := by omega
            exact heq
        have heH := Lib.hid heq
        clear heq hv
        go_wp2_with (go_at_call 213; refine (impl_checkedMatrix1 _ _ _ hr hpr).mono ?_; rintro e w1 ⟨rfl, rfl⟩; rw [heH.out])
        go_round
        case rel => exact ⟨k + 1, hlt, by go_num, hN'⟩
        case measure => simp [intOf]; omega
      · have hF : Hid (idxP (fun r => !okR r) T = k) := idxP_hit (fun r => !okR r) T k hlt (fun j hj => hN.out j hj (by omega)) heq
        have heH := Lib.hid heq
        clear heq hv
        go_wp2_with (go_at_call 213; refine (impl_checkedMatrix1 _ _ _ hr hpr).mono ?_; rintro e w1 ⟨rfl, rfl⟩; rw [heH.out])
        go_ret
        exact ⟨ret_int hF.out.symm, rfl⟩
    · obtain rfl : k = T.length := by omega
      have hF : Hid (idxP (fun r => !okR r) T = -1) := idxP_miss (fun r => !okR r) T fun j hj => hN.out j hj hj
      go_wp2
      go_ret
      exact ⟨ret_int hF.out.symm, rfl⟩
theorem okV_any (T : List (List Int)) : (T.any fun r => !okR r) = !okV T := by
  unfold okV
  induction T with
  | nil => rfl
  | cons a l ih => simp only [List.any_cons, List.all_cons, Bool.not_and, ih]
set_option maxHeartbeats 400000 in
set_option maxRecDepth 100000 in
theorem chkM_contains (v : Value) (T : List (List Int)) (w : World) (h0 : LstM w w.heap.size v T) (hp : Hid (∀ r ∈ T, ∀ x ∈ r, 0 ≤ x)) :
    Calls Try.prog 212 #[v, .func (.func 213) #[] #[]] w fun r w' => r = .returned (.bool (!okV T)) ∧ w = w' := by
  go_enter Try.func212, Try.ntmps212
  go_wp2_with (go_at_call 238; refine (chkM_index _ _ _ h0 hp).mono ?_; rintro e w1 ⟨rfl, rfl⟩)
  go_ret
  exact ⟨ret_bool ((idxP_any _ _).trans (okV_any T)), rfl⟩
set_option maxHeartbeats 400000 in
set_option maxRecDepth 100000 in
theorem impl_checkedMatrix (v : Value) (T : List (List Int)) (w : World) (h0 : LstM w w.heap.size v T) (hp : Hid (∀ r ∈ T, ∀ x ∈ r, 0 ≤ x)) :
    Calls Try.prog 150 #[v] w fun r w' => r = .returned (if okV T = true then .tuple #[v, .int .i64 0] else .tuple #[.slice none 0 0, .int .i64 3]) ∧ w = w' := by
  cases hk : okV T
  · go_enter Try.func150, Try.ntmps150
    go_wp2_with (go_at_call 212; refine (chkM_contains _ _ _ h0 hp).mono ?_; rintro e w1 ⟨rfl, rfl⟩; rw [hk])
    go_ret2
    exact ⟨rfl, rfl⟩
  · go_enter Try.func150, Try.ntmps150
    go_wp2_with (go_at_call 212; refine (chkM_contains _ _ _ h0 hp).mono ?_; rintro e w1 ⟨rfl, rfl⟩; rw [hk])
    go_ret2
    exact ⟨rfl, rfl⟩
set_option maxHeartbeats 4000000 in
set_option maxRecDepth 100000 in
theorem impl_StartedTimes (v : Value) (ge : Int) (gp : List Place) (N : Int) (u : Value) (s : List Int) (w : World) (h0 : Lst Place.cells 4 w w.heap.size v gp) (h1 : Lst intCell 1 w w.heap.size u s) :
    Calls Try.prog 51 #[.agg #[.int .i64 ge, v], .int .i64 N, u] w (RetMI w (startF ge gp N s).1 (startF ge gp N s).2) := by
  obtain ⟨A, c, rfl⟩ := h0.shape
  obtain ⟨C, d, rfl⟩ := h1.shape
  have hmax := h1.len_le
  go_enter Try.func51, Try.ntmps51
  go_wp2_with fail
  have hW : Below w.heap.size w (w.alloc (.cells #[.int .i64 ge, .slice A gp.length c] 32)) := (Below.refl _ _).alloc (Nat.le_refl _) _; have hb0 : Blk (w.alloc (.cells #[.int .i64 ge, .slice A gp.length c] 32)) w.heap.size 32 #[.int .i64 ge, .slice A gp.length c] := Blk.new _ _ _; replace h0 := h0.now hW; replace h1 := h1.now hW; generalize (w.alloc (.cells #[.int .i64 ge, .slice A gp.length c] 32)) = W at *
  refine (impl_IsEventGraph _ _ _ _ h0).mono ?_
  rintro e w1 ⟨rfl, hB⟩
  replace hW := hW.trans (hB.mono hW.size); replace h0 := h0.now hB; replace h1 := h1.now hB; replace hb0 := hb0.now hB
  obtain ⟨k0, k1⟩ := hb0.c2
  clear hB
  cases hg : okGraph ge gp
  · have hE : Hid (startF ge gp N s = ([], 1)) := by show _ = _; simp [startF, timC, hg]
    clear hg
    go_wp2
    go_ret2
    exact RetMI.of hE.out ⟨_, rfl, OwnM.nil, hW⟩
  · obtain ⟨hge1, hge2⟩ := okGraph_ev hg
    have hgl := okGraph_len hg
    obtain ⟨n, rfl⟩ := Int.eq_ofNat_of_zero_le (show 0 ≤ ge by omega)
    have hg' := Lib.hid hg
    clear hg
    have hbad : Hid ((inB N 0 50 && decide ((s.length : Int) = (n : Int)) && allB s 0 1000000) = false → startF n gp N s = ([], 2)) := by
      intro h
      unfold startF timC
      rw [hg'.out, h]
      rfl
    cases hi : inB N 0 50
    · have hE := Lib.hid (hbad.out (by simp [hi]))
      clear hbad
      go_wp2_with (go_at_call 148; refine (impl_within _ _ _ _).mono ?_; rintro e w' ⟨rfl, rfl⟩; rw [hi])
      go_ret2
      exact RetMI.of hE.out ⟨_, rfl, OwnM.nil, hW⟩
    · by_cases hln : s.length = n
      · have q1 : ((s.length : Int) != (n : Int)) = false := by simp [hln]
        have hlnH := Lib.hid hln
        clear hln
        cases hin : allB s 0 1000000
        · have hE := Lib.hid (hbad.out (by simp [hin]))
          clear hbad
          go_wp2_with (first | (go_at_call 148; refine (impl_within _ _ _ _).mono ?_; rintro e w' ⟨rfl, rfl⟩; rw [hi]) | (go_at_call 149; refine (impl_allWithin _ _ _ _ _ h1).mono ?_; rintro e w' ⟨rfl, rfl⟩; rw [hin]))
          go_ret2
          exact RetMI.of hE.out ⟨_, rfl, OwnM.nil, hW⟩
        · have hbS : Hid (∀ x ∈ s, 0 ≤ x ∧ x ≤ ((1000000 : Nat) : Int)) := fun x hx => by have := (inB_iff _ _ _).1 (List.all_eq_true.1 hin x hx); omega
          have hall : Hid ((inB N 0 50 && decide ((s.length : Int) = (n : Int)) && allB s 0 1000000) = true) := by show _ = _; rw [hi, hin]; simp [hlnH.out]
          have hN := (inB_iff _ _ _).1 hi
          clear hbad
          go_wp2_with (first | (go_at_call 148; refine (impl_within _ _ _ _).mono ?_; rintro e w' ⟨rfl, rfl⟩; rw [hi]) | (go_at_call 149; refine (impl_allWithin _ _ _ _ _ h1).mono ?_; rintro e w' ⟨rfl, rfl⟩; rw [hin]))
          clear hi hin
          refine (impl_isLive _ n gp w1 h0 hg').mono ?_
          rintro e w2 ⟨rfl, hB⟩
          replace hW := hW.trans (hB.mono hW.size); replace h0 := h0.now hB; replace h1 := h1.now hB; replace hb0 := hb0.now hB
          obtain ⟨k0, k1⟩ := hb0.c2
          clear hB
          cases ho : orderF n gp with
          | none =>
            have hE : Hid (startF n gp N s = ([], 5)) := by
              show _ = _
              unfold startF timC
              rw [hg'.out, hall.out]
              simp [ho]
            clear ho
            simp only [Option.isSome_none]
            go_wp2
            go_ret2
            exact RetMI.of hE.out ⟨_, rfl, OwnM.nil, hW⟩
          | some o =>
            obtain ⟨M, rfl⟩ := Int.eq_ofNat_of_zero_le hN.1
            have hE : Hid (startF n gp M s = if okV (timT gp o s M) = true then (timT gp o s M, 0) else ([], 3)) := by
              show _ = _
              unfold startF timC
              rw [hg'.out, hall.out]
              simp [ho]
            have hTab := Lib.hid (TabOk.times (c := 1000000) hg'.out hgl (o := o) (s := s) (by have := (orderK_ok n o ho).len; omega) hlnH.out hbS.out M)
            have ho' := Lib.hid ho
            clear ho hall
            simp only [Option.isSome_some]
            go_wp2_with fail
            refine (impl_firingTimes _ n gp o M _ s w2 h0 h1 hg' ho' (by omega) hlnH.out hbS).mono ?_
            rintro e w3 ⟨x, rfl, hM, hB⟩
            generalize timT gp o s M = T at *
            obtain ⟨XA, xc, rfl⟩ := hM.shape
            have hpos : Hid (∀ r ∈ T, ∀ x ∈ r, 0 ≤ x) := fun r hr x hx => (hTab.out.bd r hr x hx).1
            go_wp2_with fail
            refine (impl_checkedMatrix _ T w3 hM.lst hpos).mono ?_
            rintro e w' ⟨rfl, rfl⟩
            have hBt := hW.trans (hB.mono hW.size)
            cases hk : okV T
            · have hE' : Hid (startF n gp M s = ([], 3)) := by show _ = _; rw [hE.out, hk]; rfl
              simp only [Bool.false_eq_true, if_false]
              clear hk
              go_wp2
              go_ret2
              exact RetMI.of hE'.out ⟨_, rfl, OwnM.nil, hBt⟩
            · have hE' : Hid (startF n gp M s = (T, 0)) := by show _ = _; rw [hE.out, hk]; rfl
              simp only [if_true]
              clear hk
              go_wp2
              go_ret2
              exact RetMI.of hE'.out ⟨_, rfl, hM.rebase hW.size, hBt⟩
      · have q1 : ((s.length : Int) != (n : Int)) = true := by simp; omega
        have hE := Lib.hid (hbad.out (by
          have : decide ((s.length : Int) = (n : Int)) = false := by simp; omega
          simp [this]))
        clear hbad
        go_wp2_with (go_at_call 148; refine (impl_within _ _ _ _).mono ?_; rintro e w' ⟨rfl, rfl⟩; rw [hi])
        go_ret2
        exact RetMI.of hE.out ⟨_, rfl, OwnM.nil, hW⟩
set_option maxHeartbeats 4000000 in
set_option maxRecDepth 100000 in
theorem spec_StartedTimes (v : Value) (ge : Int) (gp : List Place) (N : Int) (u : Value) (s : List Int) (w : World) (h0 : Lst Place.cells 4 w w.heap.size v gp) (h1 : Lst intCell 1 w w.heap.size u s) :
    Calls Try.prog 52 #[.agg #[.int .i64 ge, v], .int .i64 N, u] w (RetMI w (startF ge gp N s).1 (startF ge gp N s).2) := by
  obtain ⟨A, c, rfl⟩ := h0.shape
  obtain ⟨C, d, rfl⟩ := h1.shape
  have hmax := h1.len_le
  obtain ⟨B, hBdef⟩ : ∃ B, (inB N 0 50 && decide ((s.length : Int) = ge) && allB s 0 1000000) = B := ⟨_, rfl⟩
  have hBH := Lib.hid hBdef
  have hcode : Hid (timC ge gp (inB N 0 50 && decide ((s.length : Int) = ge) && (allB s 0 1000000 && decide ((s.length : Int) ≤ 10))) = timC ge gp B) := by
    show _ = _
    rw [← hBdef]
    cases hg : okGraph ge gp
    · simp [timC, hg]
    · obtain ⟨hge1, hge2⟩ := okGraph_ev hg
      by_cases hl : (s.length : Int) = ge
      · rw [show decide ((s.length : Int) ≤ 10) = true by simp; omega, Bool.and_true]
      · rw [show decide ((s.length : Int) = ge) = false by simpa using hl]
        simp
  clear hBdef
  go_enter Try.func52, Try.ntmps52
  go_wp2_with fail
  have hW : Below w.heap.size w (w.alloc (.cells #[.int .i64 ge, .slice A gp.length c] 32)) := (Below.refl _ _).alloc (Nat.le_refl _) _
  have hb0 : Blk (w.alloc (.cells #[.int .i64 ge, .slice A gp.length c] 32)) w.heap.size 32 #[.int .i64 ge, .slice A gp.length c] := Blk.new _ _ _
  replace h0 := h0.now hW
  replace h1 := h1.now hW
  generalize w.alloc (.cells #[.int .i64 ge, .slice A gp.length c] 32) = W at *
  have hBd : Below W.heap.size W W.drew := Below.drew (Below.refl _ W)
  obtain ⟨k0, k1⟩ := hb0.c2
  have z0 : W.drew.cell? ⟨w.heap.size, 0, none⟩ = some (.int .i64 ge) := k0
  have z1 : W.drew.cell? ⟨w.heap.size, 1, none⟩ = some (.slice A gp.length c) := k1
  cases hi : inB N 0 50
  · have hcb : Hid (timC ge gp false = timC ge gp B) := by show _ = _; rw [← hcode.out, hi, Bool.false_and, Bool.false_and]
    refine wp_region_held_drew (S := fun w' => w'.cell? ⟨w.heap.size, 0, none⟩ = some (.int .i64 ge) ∧ w'.cell? ⟨w.heap.size, 1, none⟩ = some (.slice A gp.length c)) (by kernel_rfl) ⟨z0, z1⟩ (fun hH => ?_)
    refine wpAnyH_take (i := 0) (oi := { dst := _, op := _, type := _, pos := _, after := _, guard := _ }) (v := ?_) rfl (by kernel_rfl) (by kernel_rfl) (by kernel_rfl) (fun _ _ _ h => h) (Or.inl ⟨by rfl, ?_⟩) hH ?_
    rotate_left
    · intro w9 hSw
      try dsimp only at hSw
      obtain ⟨s0, s1⟩ := hSw
      go_simp
      try with_reducible rfl
    try simp only [Act.put, List.setIfInBounds_toArray, List.set_cons_zero, List.set_cons_succ]
    refine wpAnyH_take (i := 1) (oi := { dst := _, op := _, type := _, pos := _, after := _, guard := _ }) (v := ?_) rfl (by kernel_rfl) (by kernel_rfl) (by kernel_rfl) (fun _ _ _ h => h) (Or.inl ⟨by rfl, ?_⟩) hH ?_
    rotate_left
    · intro w9 hSw
      try dsimp only at hSw
      obtain ⟨s0, s1⟩ := hSw
      go_simp
      try with_reducible rfl
    try simp only [Act.put, List.setIfInBounds_toArray, List.set_cons_zero, List.set_cons_succ]
    refine wpAnyH_ready (rs := [2]) (by kernel_rfl) (by simp) ?_
    refine AllReadyH.cons rfl (fun K hK => ?_) AllReadyH.nil
    go_simp
    go_at_call 113
    refine (spec_l01In _ _ _ _).mono ?_
    rintro e6 w6 ⟨rfl, rfl⟩
    rw [hi]
    refine hK.out _ _ ⟨z0, z1⟩ (fun hH => ?_)
    clear hK K
    try simp only [Act.put, List.setIfInBounds_toArray, List.set_cons_zero, List.set_cons_succ]
    refine wpAnyH_take (i := 3) (oi := { dst := _, op := _, type := _, pos := _, after := _, guard := _ }) (v := ?_) rfl (by kernel_rfl) (by kernel_rfl) (by kernel_rfl) (fun _ _ _ h => h) (Or.inl ⟨by rfl, ?_⟩) hH ?_
    rotate_left
    · intro w9 hSw
      try dsimp only at hSw
      obtain ⟨s0, s1⟩ := hSw
      go_simp
      try with_reducible rfl
    try simp only [Act.put, List.setIfInBounds_toArray, List.set_cons_zero, List.set_cons_succ]
    refine wpAnyH_take (i := 4) (oi := { dst := _, op := _, type := _, pos := _, after := _, guard := _ }) (v := undef) rfl (by kernel_rfl) (by kernel_rfl) (by kernel_rfl) (fun _ _ _ h => h) (Or.inr ⟨by rfl, rfl⟩) hH ?_
    try simp only [Act.put, List.setIfInBounds_toArray, List.set_cons_zero, List.set_cons_succ]
    refine wpAnyH_take (i := 5) (oi := { dst := _, op := _, type := _, pos := _, after := _, guard := _ }) (v := undef) rfl (by kernel_rfl) (by kernel_rfl) (by kernel_rfl) (fun _ _ _ h => h) (Or.inr ⟨by rfl, rfl⟩) hH ?_
    try simp only [Act.put, List.setIfInBounds_toArray, List.set_cons_zero, List.set_cons_succ]
    refine wpAnyH_take (i := 6) (oi := { dst := _, op := _, type := _, pos := _, after := _, guard := _ }) (v := undef) rfl (by kernel_rfl) (by kernel_rfl) (by kernel_rfl) (fun _ _ _ h => h) (Or.inr ⟨by rfl, rfl⟩) hH ?_
    try simp only [Act.put, List.setIfInBounds_toArray, List.set_cons_zero, List.set_cons_succ]
    refine wpAnyH_take (i := 7) (oi := { dst := _, op := _, type := _, pos := _, after := _, guard := _ }) (v := undef) rfl (by kernel_rfl) (by kernel_rfl) (by kernel_rfl) (fun _ _ _ h => h) (Or.inr ⟨by rfl, rfl⟩) hH ?_
    try simp only [Act.put, List.setIfInBounds_toArray, List.set_cons_zero, List.set_cons_succ]
    refine wpAnyH_take (i := 8) (oi := { dst := _, op := _, type := _, pos := _, after := _, guard := _ }) (v := undef) rfl (by kernel_rfl) (by kernel_rfl) (by kernel_rfl) (fun _ _ _ h => h) (Or.inr ⟨by rfl, rfl⟩) hH ?_
    try simp only [Act.put, List.setIfInBounds_toArray, List.set_cons_zero, List.set_cons_succ]
    refine wpAnyH_take (i := 9) (oi := { dst := _, op := _, type := _, pos := _, after := _, guard := _ }) (v := ?_) rfl (by kernel_rfl) (by kernel_rfl) (by kernel_rfl) (fun _ _ _ h => h) (Or.inl ⟨by rfl, ?_⟩) hH ?_
    rotate_left
    · intro w9 hSw
      try dsimp only at hSw
      obtain ⟨s0, s1⟩ := hSw
      go_simp
      try with_reducible rfl
    try simp only [Act.put, List.setIfInBounds_toArray, List.set_cons_zero, List.set_cons_succ]
    refine wpAnyH_take (i := 10) (oi := { dst := _, op := _, type := _, pos := _, after := _, guard := _ }) (v := ?_) rfl (by kernel_rfl) (by kernel_rfl) (by kernel_rfl) (fun _ _ _ h => h) (Or.inl ⟨by rfl, ?_⟩) hH ?_
    rotate_left
    · intro w9 hSw
      try dsimp only at hSw
      obtain ⟨s0, s1⟩ := hSw
      go_simp
      try with_reducible rfl
    try simp only [Act.put, List.setIfInBounds_toArray, List.set_cons_zero, List.set_cons_succ]
    refine wpAnyH_take (i := 11) (oi := { dst := _, op := _, type := _, pos := _, after := _, guard := _ }) (v := undef) rfl (by kernel_rfl) (by kernel_rfl) (by kernel_rfl) (fun _ _ _ h => h) (Or.inr ⟨by rfl, rfl⟩) hH ?_
    try simp only [Act.put, List.setIfInBounds_toArray, List.set_cons_zero, List.set_cons_succ]
    refine wpAnyH_take (i := 12) (oi := { dst := _, op := _, type := _, pos := _, after := _, guard := _ }) (v := undef) rfl (by kernel_rfl) (by kernel_rfl) (by kernel_rfl) (fun _ _ _ h => h) (Or.inr ⟨by rfl, rfl⟩) hH ?_
    try simp only [Act.put, List.setIfInBounds_toArray, List.set_cons_zero, List.set_cons_succ]
    refine wpAnyH_take (i := 13) (oi := { dst := _, op := _, type := _, pos := _, after := _, guard := _ }) (v := ?_) rfl (by kernel_rfl) (by kernel_rfl) (by kernel_rfl) (fun _ _ _ h => h) (Or.inl ⟨by rfl, ?_⟩) hH ?_
    rotate_left
    · intro w9 hSw
      try dsimp only at hSw
      obtain ⟨s0, s1⟩ := hSw
      go_simp
      try with_reducible rfl
    try simp only [Act.put, List.setIfInBounds_toArray, List.set_cons_zero, List.set_cons_succ]
    refine wpAnyH_ready (rs := [14]) (by kernel_rfl) (by simp) ?_
    refine AllReadyH.cons rfl (fun K hK => ?_) AllReadyH.nil
    go_simp
    go_at_call 112
    refine (spec_l13Code _ _ _ _ W.drew (h0.now hBd)).mono ?_
    rintro e7 w1 ⟨rfl, hB⟩
    rw [hcb.out]
    have z0a := cell_keep (w := W.drew) z0 hB
    have z1a := cell_keep (w := W.drew) z1 hB
    refine hK.out _ _ ⟨z0a, z1a⟩ (fun hH => ?_)
    clear hK K
    try simp only [Act.put, List.setIfInBounds_toArray, List.set_cons_zero, List.set_cons_succ]
    refine wpAnyH_take (i := 15) (oi := { dst := _, op := _, type := _, pos := _, after := _, guard := _ }) (v := ?_) rfl (by kernel_rfl) (by kernel_rfl) (by kernel_rfl) (fun _ _ _ h => h) (Or.inl ⟨by rfl, ?_⟩) hH ?_
    rotate_left
    · intro w9 hSw
      try dsimp only at hSw
      obtain ⟨s0, s1⟩ := hSw
      go_simp
      try with_reducible rfl
    try simp only [Act.put, List.setIfInBounds_toArray, List.set_cons_zero, List.set_cons_succ]
    refine wpAnyH_done (by kernel_rfl) ?_ _
    replace h0 := (h0.now hBd).now hB
    replace h1 := (h1.now hBd).now hB
    replace hb0 := (hb0.now hBd).now hB
    replace hW := hW.trans ((hBd.trans hB).mono hW.size)
    clear hB k0 k1 z0 z1 z0a z1a hH hBd hcb hi hcode
    obtain ⟨k0, k1⟩ := hb0.c2
    have l0 := hb0.lt
    cases hc : timC ge gp B == 0
    · have hc' : (timC ge gp B != 0) = true := by simp only [bne, hc]; rfl
      have hE : Hid (startF ge gp N s = ([], timC ge gp B)) := by show _ = _; unfold startF; rw [hBH.out, if_neg (by simpa using hc)]
      clear hc
      generalize timC ge gp B = code at *
      go_wp2
      go_ret2
      exact RetMI.of hE.out ⟨_, rfl, OwnM.nil, hW⟩
    · have hc0 : timC ge gp B = 0 := by simpa using hc
      obtain ⟨hg, hb, o, ho⟩ := timC_zero hc0
      have hb2 := hBH.out
      rw [hb] at hb2
      simp only [Bool.and_eq_true, decide_eq_true_eq] at hb2
      obtain ⟨hge1, hge2⟩ := okGraph_ev hg
      have hgl := okGraph_len hg
      obtain ⟨n, rfl⟩ := Int.eq_ofNat_of_zero_le (show 0 ≤ ge by omega)
      have hN := (inB_iff _ _ _).1 hb2.1.1
      obtain ⟨M, rfl⟩ := Int.eq_ofNat_of_zero_le hN.1
      rw [Int.toNat_natCast] at ho
      have hln : Hid (s.length = n) := by have := hb2.1.2; show _ = _; omega
      have hbS : Hid (∀ x ∈ s, 0 ≤ x ∧ x ≤ ((1000000 : Nat) : Int)) := fun x hx => by have := (inB_iff _ _ _).1 (List.all_eq_true.1 hb2.2 x hx); omega
      have hE : Hid (startF n gp M s = if okV (timT gp o s M) = true then (timT gp o s M, 0) else ([], 3)) := by show _ = _; unfold startF; rw [hBH.out, if_pos hc0, Int.toNat_natCast, Int.toNat_natCast, ho]; rfl
      have hTab := Lib.hid (TabOk.times (c := 1000000) hg hgl (o := o) (s := s) (by have := (orderK_ok n o ho).len; omega) hln.out hbS.out M)
      have hg' := Lib.hid hg
      have ho' := Lib.hid ho
      rw [hc0]
      clear hc hc0 hb hb2 hg ho hBH
      go_wp2_with fail
      refine (spec_l13Times _ n gp o M _ s w1 h0 h1 hg' ho' (by omega) hln.out hbS).mono ?_
      rintro e w3 ⟨x, rfl, hM, hB⟩
      generalize timT gp o s M = T at *
      obtain ⟨XA, xc, rfl⟩ := hM.shape
      have hpos : Hid (∀ r ∈ T, ∀ x ∈ r, 0 ≤ x) := fun r hr x hx => (hTab.out.bd r hr x hx).1
      have hBt := hW.trans (hB.mono hW.size)
      have hL := hM.lst
      have hTmx := hL.len_le
      go_wp2
      go_loop [10] (fun i => ∃ k : Nat, k ≤ T.length ∧ i = .int .i64 k ∧ Hid (∀ j (hj : j < k) (hl : j < T.length), okR T[j] = true)) (fun i => T.length - (intOf i).toNat)
      case atStart => exact ⟨0, Nat.zero_le _, rfl, fun j hj => absurd hj (by omega)⟩
      case round =>
        obtain ⟨k, hk, rfl, hKO⟩ := hrel
        by_cases hlt : k < T.length
        · obtain ⟨b, off, cr, r, hA, -, d0, hr⟩ := hL.row k hlt
          cases hA
          obtain ⟨R, rc, hv⟩ := hr.shape
          rw [hv] at d0 hr
          have hpr : Hid (∀ x ∈ T[k], 0 ≤ x) := fun x hx => hpos.out _ (List.getElem_mem hlt) x hx
          clear hv
          cases hrk : okR T[k]
          · have hV : okV T = false := by
              unfold okV
              rw [List.all_eq_false]
              exact ⟨T[k], List.getElem_mem hlt, by rw [hrk]; simp⟩
            have hE' : Hid (startF n gp M s = ([], 3)) := by show _ = _; rw [hE.out, hV]; rfl
            have hrH := Lib.hid hrk
            clear hrk hV
            go_wp2_with (go_at_call 152; refine (spec_l01All _ _ _ hr hpr).mono ?_; rintro e w1 ⟨rfl, rfl⟩; rw [hrH.out])
            go_ret2
            exact RetMI.of hE'.out ⟨_, rfl, OwnM.nil, hBt⟩
          · have hKO' : Hid (∀ j (hj : j < k + 1) (hl : j < T.length), okR T[j] = true) := by
              intro j hj hl2
              rcases Nat.lt_or_ge j k with h | h
              · exact hKO.out j h hl2
              · obtain rfl : j = k := by omega
                exact hrk
            have hrH := Lib.hid hrk
            clear hrk
            go_wp2_with (go_at_call 152; refine (spec_l01All _ _ _ hr hpr).mono ?_; rintro e w1 ⟨rfl, rfl⟩; rw [hrH.out])
            go_round
            case rel => exact ⟨k + 1, hlt, by go_num, hKO'⟩
            case measure => simp [intOf]; omega
        · obtain rfl : k = T.length := by omega
          have hV : okV T = true := by
            unfold okV
            rw [List.all_eq_true]
            intro r hr
            obtain ⟨j, hj, rfl⟩ := List.mem_iff_getElem.1 hr
            exact hKO.out j hj hj
          have hE' : Hid (startF n gp M s = (T, 0)) := by show _ = _; rw [hE.out, hV]; rfl
          clear hV
          go_wp2
          go_ret2
          exact RetMI.of hE'.out ⟨_, rfl, hM.rebase hW.size, hBt⟩
  · by_cases hl : (s.length : Int) = ge
    · have q1 : ((s.length : Int) == ge) = true := by simpa using hl
      have hcb : Hid (timC ge gp (allB s 0 1000000 && decide ((s.length : Int) ≤ 10)) = timC ge gp B) := by show _ = _; rw [← hcode.out, hi, show decide ((s.length : Int) = ge) = true by simpa using hl, Bool.true_and, Bool.true_and]
      clear hl
      refine wp_region_held_drew (S := fun w' => w'.cell? ⟨w.heap.size, 0, none⟩ = some (.int .i64 ge) ∧ w'.cell? ⟨w.heap.size, 1, none⟩ = some (.slice A gp.length c)) (by kernel_rfl) ⟨z0, z1⟩ (fun hH => ?_)
      refine wpAnyH_take (i := 0) (oi := { dst := _, op := _, type := _, pos := _, after := _, guard := _ }) (v := ?_) rfl (by kernel_rfl) (by kernel_rfl) (by kernel_rfl) (fun _ _ _ h => h) (Or.inl ⟨by rfl, ?_⟩) hH ?_
      rotate_left
      · intro w9 hSw
        try dsimp only at hSw
        obtain ⟨s0, s1⟩ := hSw
        go_simp
        try with_reducible rfl
      try simp only [Act.put, List.setIfInBounds_toArray, List.set_cons_zero, List.set_cons_succ]
      refine wpAnyH_take (i := 1) (oi := { dst := _, op := _, type := _, pos := _, after := _, guard := _ }) (v := ?_) rfl (by kernel_rfl) (by kernel_rfl) (by kernel_rfl) (fun _ _ _ h => h) (Or.inl ⟨by rfl, ?_⟩) hH ?_
      rotate_left
      · intro w9 hSw
        try dsimp only at hSw
        obtain ⟨s0, s1⟩ := hSw
        go_simp
        try with_reducible rfl
      try simp only [Act.put, List.setIfInBounds_toArray, List.set_cons_zero, List.set_cons_succ]
      refine wpAnyH_ready (rs := [2]) (by kernel_rfl) (by simp) ?_
      refine AllReadyH.cons rfl (fun K hK => ?_) AllReadyH.nil
      go_simp
      go_at_call 113
      refine (spec_l01In _ _ _ _).mono ?_
      rintro e6 w6 ⟨rfl, rfl⟩
      rw [hi]
      refine hK.out _ _ ⟨z0, z1⟩ (fun hH => ?_)
      clear hK K
      try simp only [Act.put, List.setIfInBounds_toArray, List.set_cons_zero, List.set_cons_succ]
      refine wpAnyH_take (i := 3) (oi := { dst := _, op := _, type := _, pos := _, after := _, guard := _ }) (v := ?_) rfl (by kernel_rfl) (by kernel_rfl) (by kernel_rfl) (fun _ _ _ h => h) (Or.inl ⟨by rfl, ?_⟩) hH ?_
      rotate_left
      · intro w9 hSw
        try dsimp only at hSw
        obtain ⟨s0, s1⟩ := hSw
        go_simp
        try with_reducible rfl
      try simp only [Act.put, List.setIfInBounds_toArray, List.set_cons_zero, List.set_cons_succ]
      refine wpAnyH_take (i := 4) (oi := { dst := _, op := _, type := _, pos := _, after := _, guard := _ }) (v := ?_) rfl (by kernel_rfl) (by kernel_rfl) (by kernel_rfl) (fun _ _ _ h => h) (Or.inl ⟨by rfl, ?_⟩) hH ?_
      rotate_left
      · intro w9 hSw
        try dsimp only at hSw
        obtain ⟨s0, s1⟩ := hSw
        go_simp
        try with_reducible rfl
      try simp only [Act.put, List.setIfInBounds_toArray, List.set_cons_zero, List.set_cons_succ]
      refine wpAnyH_take (i := 5) (oi := { dst := _, op := _, type := _, pos := _, after := _, guard := _ }) (v := ?_) rfl (by kernel_rfl) (by kernel_rfl) (by kernel_rfl) (fun _ _ _ h => h) (Or.inl ⟨by rfl, ?_⟩) hH ?_
      rotate_left
      · intro w9 hSw
        try dsimp only at hSw
        obtain ⟨s0, s1⟩ := hSw
        go_simp
        try with_reducible rfl
      try simp only [Act.put, List.setIfInBounds_toArray, List.set_cons_zero, List.set_cons_succ]
      refine wpAnyH_take (i := 6) (oi := { dst := _, op := _, type := _, pos := _, after := _, guard := _ }) (v := ?_) rfl (by kernel_rfl) (by kernel_rfl) (by kernel_rfl) (fun _ _ _ h => h) (Or.inl ⟨by rfl, ?_⟩) hH ?_
      rotate_left
      · intro w9 hSw
        try dsimp only at hSw
        obtain ⟨s0, s1⟩ := hSw
        go_simp
        try with_reducible rfl
      try simp only [Act.put, List.setIfInBounds_toArray, List.set_cons_zero, List.set_cons_succ]
      refine wpAnyH_take (i := 7) (oi := { dst := _, op := _, type := _, pos := _, after := _, guard := _ }) (v := ?_) rfl (by kernel_rfl) (by kernel_rfl) (by kernel_rfl) (fun _ _ _ h => h) (Or.inl ⟨by rfl, ?_⟩) hH ?_
      rotate_left
      · intro w9 hSw
        try dsimp only at hSw
        obtain ⟨s0, s1⟩ := hSw
        go_simp
        try with_reducible rfl
      try simp only [Act.put, List.setIfInBounds_toArray, List.set_cons_zero, List.set_cons_succ]
      refine wpAnyH_take (i := 8) (oi := { dst := _, op := _, type := _, pos := _, after := _, guard := _ }) (v := ?_) rfl (by kernel_rfl) (by kernel_rfl) (by kernel_rfl) (fun _ _ _ h => h) (Or.inl ⟨by rfl, ?_⟩) hH ?_
      rotate_left
      · intro w9 hSw
        try dsimp only at hSw
        obtain ⟨s0, s1⟩ := hSw
        go_simp
        try with_reducible rfl
      try simp only [Act.put, List.setIfInBounds_toArray, List.set_cons_zero, List.set_cons_succ]
      refine wpAnyH_take (i := 9) (oi := { dst := _, op := _, type := _, pos := _, after := _, guard := _ }) (v := ?_) rfl (by kernel_rfl) (by kernel_rfl) (by kernel_rfl) (fun _ _ _ h => h) (Or.inl ⟨by rfl, ?_⟩) hH ?_
      rotate_left
      · intro w9 hSw
        try dsimp only at hSw
        obtain ⟨s0, s1⟩ := hSw
        go_simp
        try with_reducible rfl
      try simp only [Act.put, List.setIfInBounds_toArray, List.set_cons_zero, List.set_cons_succ]
      refine wpAnyH_take (i := 10) (oi := { dst := _, op := _, type := _, pos := _, after := _, guard := _ }) (v := ?_) rfl (by kernel_rfl) (by kernel_rfl) (by kernel_rfl) (fun _ _ _ h => h) (Or.inl ⟨by rfl, ?_⟩) hH ?_
      rotate_left
      · intro w9 hSw
        try dsimp only at hSw
        obtain ⟨s0, s1⟩ := hSw
        go_simp
        try with_reducible rfl
      try simp only [Act.put, List.setIfInBounds_toArray, List.set_cons_zero, List.set_cons_succ]
      refine wpAnyH_take (i := 11) (oi := { dst := _, op := _, type := _, pos := _, after := _, guard := _ }) (v := ?_) rfl (by kernel_rfl) (by kernel_rfl) (by kernel_rfl) (fun _ _ _ h => h) (Or.inl ⟨by rfl, ?_⟩) hH ?_
      rotate_left
      · intro w9 hSw
        try dsimp only at hSw
        obtain ⟨s0, s1⟩ := hSw
        go_simp
        try with_reducible rfl
      try simp only [Act.put, List.setIfInBounds_toArray, List.set_cons_zero, List.set_cons_succ]
      refine wpAnyH_ready (rs := [12]) (by kernel_rfl) (by simp) ?_
      refine AllReadyH.cons rfl (fun K hK => ?_) AllReadyH.nil
      go_simp
      go_at_call 151
      refine (spec_l01Within _ _ _ _ _ _ (h1.now hBd)).mono ?_
      rintro e6 w6 ⟨rfl, rfl⟩
      refine hK.out _ _ ⟨z0, z1⟩ (fun hH => ?_)
      clear hK K
      try simp only [Act.put, List.setIfInBounds_toArray, List.set_cons_zero, List.set_cons_succ]
      refine wpAnyH_take (i := 13) (oi := { dst := _, op := _, type := _, pos := _, after := _, guard := _ }) (v := ?_) rfl (by kernel_rfl) (by kernel_rfl) (by kernel_rfl) (fun _ _ _ h => h) (Or.inl ⟨by rfl, ?_⟩) hH ?_
      rotate_left
      · intro w9 hSw
        try dsimp only at hSw
        obtain ⟨s0, s1⟩ := hSw
        go_simp
        try with_reducible rfl
      try simp only [Act.put, List.setIfInBounds_toArray, List.set_cons_zero, List.set_cons_succ]
      refine wpAnyH_ready (rs := [14]) (by kernel_rfl) (by simp) ?_
      refine AllReadyH.cons rfl (fun K hK => ?_) AllReadyH.nil
      go_simp
      go_at_call 112
      refine (spec_l13Code _ _ _ _ W.drew (h0.now hBd)).mono ?_
      rintro e7 w1 ⟨rfl, hB⟩
      rw [hcb.out]
      have z0a := cell_keep (w := W.drew) z0 hB
      have z1a := cell_keep (w := W.drew) z1 hB
      refine hK.out _ _ ⟨z0a, z1a⟩ (fun hH => ?_)
      clear hK K
      try simp only [Act.put, List.setIfInBounds_toArray, List.set_cons_zero, List.set_cons_succ]
      refine wpAnyH_take (i := 15) (oi := { dst := _, op := _, type := _, pos := _, after := _, guard := _ }) (v := ?_) rfl (by kernel_rfl) (by kernel_rfl) (by kernel_rfl) (fun _ _ _ h => h) (Or.inl ⟨by rfl, ?_⟩) hH ?_
      rotate_left
      · intro w9 hSw
        try dsimp only at hSw
        obtain ⟨s0, s1⟩ := hSw
        go_simp
        try with_reducible rfl
      try simp only [Act.put, List.setIfInBounds_toArray, List.set_cons_zero, List.set_cons_succ]
      refine wpAnyH_done (by kernel_rfl) ?_ _
      replace h0 := (h0.now hBd).now hB
      replace h1 := (h1.now hBd).now hB
      replace hb0 := (hb0.now hBd).now hB
      replace hW := hW.trans ((hBd.trans hB).mono hW.size)
      clear hB k0 k1 z0 z1 z0a z1a hH hBd hcb hi hcode
      obtain ⟨k0, k1⟩ := hb0.c2
      have l0 := hb0.lt
      cases hc : timC ge gp B == 0
      · have hc' : (timC ge gp B != 0) = true := by simp only [bne, hc]; rfl
        have hE : Hid (startF ge gp N s = ([], timC ge gp B)) := by show _ = _; unfold startF; rw [hBH.out, if_neg (by simpa using hc)]
        clear hc
        generalize timC ge gp B = code at *
        go_wp2
        go_ret2
        exact RetMI.of hE.out ⟨_, rfl, OwnM.nil, hW⟩
      · have hc0 : timC ge gp B = 0 := by simpa using hc
        obtain ⟨hg, hb, o, ho⟩ := timC_zero hc0
        have hb2 := hBH.out
        rw [hb] at hb2
        simp only [Bool.and_eq_true, decide_eq_true_eq] at hb2
        obtain ⟨hge1, hge2⟩ := okGraph_ev hg
        have hgl := okGraph_len hg
        obtain ⟨n, rfl⟩ := Int.eq_ofNat_of_zero_le (show 0 ≤ ge by omega)
        have hN := (inB_iff _ _ _).1 hb2.1.1
        obtain ⟨M, rfl⟩ := Int.eq_ofNat_of_zero_le hN.1
        rw [Int.toNat_natCast] at ho
        have hln : Hid (s.length = n) := by have := hb2.1.2; show _ = _; omega
        have hbS : Hid (∀ x ∈ s, 0 ≤ x ∧ x ≤ ((1000000 : Nat) : Int)) := fun x hx => by have := (inB_iff _ _ _).1 (List.all_eq_true.1 hb2.2 x hx); omega
        have hE : Hid (startF n gp M s = if okV (timT gp o s M) = true then (timT gp o s M, 0) else ([], 3)) := by show _ = _; unfold startF; rw [hBH.out, if_pos hc0, Int.toNat_natCast, Int.toNat_natCast, ho]; rfl
        have hTab := Lib.hid (TabOk.times (c := 1000000) hg hgl (o := o) (s := s) (by have := (orderK_ok n o ho).len; omega) hln.out hbS.out M)
        have hg' := Lib.hid hg
        have ho' := Lib.hid ho
        rw [hc0]
        clear hc hc0 hb hb2 hg ho hBH
        go_wp2_with fail
        refine (spec_l13Times _ n gp o M _ s w1 h0 h1 hg' ho' (by omega) hln.out hbS).mono ?_
        rintro e w3 ⟨x, rfl, hM, hB⟩
        generalize timT gp o s M = T at *
        obtain ⟨XA, xc, rfl⟩ := hM.shape
        have hpos : Hid (∀ r ∈ T, ∀ x ∈ r, 0 ≤ x) := fun r hr x hx => (hTab.out.bd r hr x hx).1
        have hBt := hW.trans (hB.mono hW.size)
        have hL := hM.lst
        have hTmx := hL.len_le
        go_wp2
        go_loop [10] (fun i => ∃ k : Nat, k ≤ T.length ∧ i = .int .i64 k ∧ Hid (∀ j (hj : j < k) (hl : j < T.length), okR T[j] = true)) (fun i => T.length - (intOf i).toNat)
        case atStart => exact ⟨0, Nat.zero_le _, rfl, fun j hj => absurd hj (by omega)⟩
        case round =>
          obtain ⟨k, hk, rfl, hKO⟩ := hrel
          by_cases hlt : k < T.length
          · obtain ⟨b, off, cr, r, hA, -, d0, hr⟩ := hL.row k hlt
            cases hA
            obtain ⟨R, rc, hv⟩ := hr.shape
            rw [hv] at d0 hr
            have hpr : Hid (∀ x ∈ T[k], 0 ≤ x) := fun x hx => hpos.out _ (List.getElem_mem hlt) x hx
            clear hv
            cases hrk : okR T[k]
            · have hV : okV T = false := by
                unfold okV
                rw [List.all_eq_false]
                exact ⟨T[k], List.getElem_mem hlt, by rw [hrk]; simp⟩
              have hE' : Hid (startF n gp M s = ([], 3)) := by show _ = _; rw [hE.out, hV]; rfl
              have hrH := Lib.hid hrk
              clear hrk hV
              go_wp2_with (go_at_call 152; refine (spec_l01All _ _ _ hr hpr).mono ?_; rintro e w1 ⟨rfl, rfl⟩; rw [hrH.out])
              go_ret2
              exact RetMI.of hE'.out ⟨_, rfl, OwnM.nil, hBt⟩
            · have hKO' : Hid (∀ j (hj : j < k + 1) (hl : j < T.length), okR T[j] = true) := by
                intro j hj hl2
                rcases Nat.lt_or_ge j k with h | h
                · exact hKO.out j h hl2
                · obtain rfl : j = k := by omega
                  exact hrk
              have hrH := Lib.hid hrk
              clear hrk
              go_wp2_with (go_at_call 152; refine (spec_l01All _ _ _ hr hpr).mono ?_; rintro e w1 ⟨rfl, rfl⟩; rw [hrH.out])
              go_round
              case rel => exact ⟨k + 1, hlt, by go_num, hKO'⟩
              case measure => simp [intOf]; omega
          · obtain rfl : k = T.length := by omega
            have hV : okV T = true := by
              unfold okV
              rw [List.all_eq_true]
              intro r hr
              obtain ⟨j, hj, rfl⟩ := List.mem_iff_getElem.1 hr
              exact hKO.out j hj hj
            have hE' : Hid (startF n gp M s = (T, 0)) := by show _ = _; rw [hE.out, hV]; rfl
            clear hV
            go_wp2
            go_ret2
            exact RetMI.of hE'.out ⟨_, rfl, hM.rebase hW.size, hBt⟩
    · have q1 : ((s.length : Int) == ge) = false := by simpa using hl
      have hcb : Hid (timC ge gp false = timC ge gp B) := by show _ = _; rw [← hcode.out, hi, show decide ((s.length : Int) = ge) = false by simpa using hl, Bool.true_and, Bool.false_and]
      clear hl
      refine wp_region_held_drew (S := fun w' => w'.cell? ⟨w.heap.size, 0, none⟩ = some (.int .i64 ge) ∧ w'.cell? ⟨w.heap.size, 1, none⟩ = some (.slice A gp.length c)) (by kernel_rfl) ⟨z0, z1⟩ (fun hH => ?_)
      refine wpAnyH_take (i := 0) (oi := { dst := _, op := _, type := _, pos := _, after := _, guard := _ }) (v := ?_) rfl (by kernel_rfl) (by kernel_rfl) (by kernel_rfl) (fun _ _ _ h => h) (Or.inl ⟨by rfl, ?_⟩) hH ?_
      rotate_left
      · intro w9 hSw
        try dsimp only at hSw
        obtain ⟨s0, s1⟩ := hSw
        go_simp
        try with_reducible rfl
      try simp only [Act.put, List.setIfInBounds_toArray, List.set_cons_zero, List.set_cons_succ]
      refine wpAnyH_take (i := 1) (oi := { dst := _, op := _, type := _, pos := _, after := _, guard := _ }) (v := ?_) rfl (by kernel_rfl) (by kernel_rfl) (by kernel_rfl) (fun _ _ _ h => h) (Or.inl ⟨by rfl, ?_⟩) hH ?_
      rotate_left
      · intro w9 hSw
        try dsimp only at hSw
        obtain ⟨s0, s1⟩ := hSw
        go_simp
        try with_reducible rfl
      try simp only [Act.put, List.setIfInBounds_toArray, List.set_cons_zero, List.set_cons_succ]
      refine wpAnyH_ready (rs := [2]) (by kernel_rfl) (by simp) ?_
      refine AllReadyH.cons rfl (fun K hK => ?_) AllReadyH.nil
      go_simp
      go_at_call 113
      refine (spec_l01In _ _ _ _).mono ?_
      rintro e6 w6 ⟨rfl, rfl⟩
      rw [hi]
      refine hK.out _ _ ⟨z0, z1⟩ (fun hH => ?_)
      clear hK K
      try simp only [Act.put, List.setIfInBounds_toArray, List.set_cons_zero, List.set_cons_succ]
      refine wpAnyH_take (i := 3) (oi := { dst := _, op := _, type := _, pos := _, after := _, guard := _ }) (v := ?_) rfl (by kernel_rfl) (by kernel_rfl) (by kernel_rfl) (fun _ _ _ h => h) (Or.inl ⟨by rfl, ?_⟩) hH ?_
      rotate_left
      · intro w9 hSw
        try dsimp only at hSw
        obtain ⟨s0, s1⟩ := hSw
        go_simp
        try with_reducible rfl
      try simp only [Act.put, List.setIfInBounds_toArray, List.set_cons_zero, List.set_cons_succ]
      refine wpAnyH_take (i := 4) (oi := { dst := _, op := _, type := _, pos := _, after := _, guard := _ }) (v := ?_) rfl (by kernel_rfl) (by kernel_rfl) (by kernel_rfl) (fun _ _ _ h => h) (Or.inl ⟨by rfl, ?_⟩) hH ?_
      rotate_left
      · intro w9 hSw
        try dsimp only at hSw
        obtain ⟨s0, s1⟩ := hSw
        go_simp
        try with_reducible rfl
      try simp only [Act.put, List.setIfInBounds_toArray, List.set_cons_zero, List.set_cons_succ]
      refine wpAnyH_take (i := 5) (oi := { dst := _, op := _, type := _, pos := _, after := _, guard := _ }) (v := ?_) rfl (by kernel_rfl) (by kernel_rfl) (by kernel_rfl) (fun _ _ _ h => h) (Or.inl ⟨by rfl, ?_⟩) hH ?_
      rotate_left
      · intro w9 hSw
        try dsimp only at hSw
        obtain ⟨s0, s1⟩ := hSw
        go_simp
        try with_reducible rfl
      try simp only [Act.put, List.setIfInBounds_toArray, List.set_cons_zero, List.set_cons_succ]
      refine wpAnyH_take (i := 6) (oi := { dst := _, op := _, type := _, pos := _, after := _, guard := _ }) (v := ?_) rfl (by kernel_rfl) (by kernel_rfl) (by kernel_rfl) (fun _ _ _ h => h) (Or.inl ⟨by rfl, ?_⟩) hH ?_
      rotate_left
      · intro w9 hSw
        try dsimp only at hSw
        obtain ⟨s0, s1⟩ := hSw
        go_simp
        try with_reducible rfl
      try simp only [Act.put, List.setIfInBounds_toArray, List.set_cons_zero, List.set_cons_succ]
      refine wpAnyH_take (i := 7) (oi := { dst := _, op := _, type := _, pos := _, after := _, guard := _ }) (v := ?_) rfl (by kernel_rfl) (by kernel_rfl) (by kernel_rfl) (fun _ _ _ h => h) (Or.inl ⟨by rfl, ?_⟩) hH ?_
      rotate_left
      · intro w9 hSw
        try dsimp only at hSw
        obtain ⟨s0, s1⟩ := hSw
        go_simp
        try with_reducible rfl
      try simp only [Act.put, List.setIfInBounds_toArray, List.set_cons_zero, List.set_cons_succ]
      refine wpAnyH_take (i := 8) (oi := { dst := _, op := _, type := _, pos := _, after := _, guard := _ }) (v := ?_) rfl (by kernel_rfl) (by kernel_rfl) (by kernel_rfl) (fun _ _ _ h => h) (Or.inl ⟨by rfl, ?_⟩) hH ?_
      rotate_left
      · intro w9 hSw
        try dsimp only at hSw
        obtain ⟨s0, s1⟩ := hSw
        go_simp
        try with_reducible rfl
      try simp only [Act.put, List.setIfInBounds_toArray, List.set_cons_zero, List.set_cons_succ]
      refine wpAnyH_take (i := 9) (oi := { dst := _, op := _, type := _, pos := _, after := _, guard := _ }) (v := ?_) rfl (by kernel_rfl) (by kernel_rfl) (by kernel_rfl) (fun _ _ _ h => h) (Or.inl ⟨by rfl, ?_⟩) hH ?_
      rotate_left
      · intro w9 hSw
        try dsimp only at hSw
        obtain ⟨s0, s1⟩ := hSw
        go_simp
        try with_reducible rfl
      try simp only [Act.put, List.setIfInBounds_toArray, List.set_cons_zero, List.set_cons_succ]
      refine wpAnyH_take (i := 10) (oi := { dst := _, op := _, type := _, pos := _, after := _, guard := _ }) (v := ?_) rfl (by kernel_rfl) (by kernel_rfl) (by kernel_rfl) (fun _ _ _ h => h) (Or.inl ⟨by rfl, ?_⟩) hH ?_
      rotate_left
      · intro w9 hSw
        try dsimp only at hSw
        obtain ⟨s0, s1⟩ := hSw
        go_simp
        try with_reducible rfl
      try simp only [Act.put, List.setIfInBounds_toArray, List.set_cons_zero, List.set_cons_succ]
      refine wpAnyH_take (i := 11) (oi := { dst := _, op := _, type := _, pos := _, after := _, guard := _ }) (v := undef) rfl (by kernel_rfl) (by kernel_rfl) (by kernel_rfl) (fun _ _ _ h => h) (Or.inr ⟨by rfl, rfl⟩) hH ?_
      try simp only [Act.put, List.setIfInBounds_toArray, List.set_cons_zero, List.set_cons_succ]
      refine wpAnyH_take (i := 12) (oi := { dst := _, op := _, type := _, pos := _, after := _, guard := _ }) (v := undef) rfl (by kernel_rfl) (by kernel_rfl) (by kernel_rfl) (fun _ _ _ h => h) (Or.inr ⟨by rfl, rfl⟩) hH ?_
      try simp only [Act.put, List.setIfInBounds_toArray, List.set_cons_zero, List.set_cons_succ]
      refine wpAnyH_take (i := 13) (oi := { dst := _, op := _, type := _, pos := _, after := _, guard := _ }) (v := ?_) rfl (by kernel_rfl) (by kernel_rfl) (by kernel_rfl) (fun _ _ _ h => h) (Or.inl ⟨by rfl, ?_⟩) hH ?_
      rotate_left
      · intro w9 hSw
        try dsimp only at hSw
        obtain ⟨s0, s1⟩ := hSw
        go_simp
        try with_reducible rfl
      try simp only [Act.put, List.setIfInBounds_toArray, List.set_cons_zero, List.set_cons_succ]
      refine wpAnyH_ready (rs := [14]) (by kernel_rfl) (by simp) ?_
      refine AllReadyH.cons rfl (fun K hK => ?_) AllReadyH.nil
      go_simp
      go_at_call 112
      refine (spec_l13Code _ _ _ _ W.drew (h0.now hBd)).mono ?_
      rintro e7 w1 ⟨rfl, hB⟩
      rw [hcb.out]
      have z0a := cell_keep (w := W.drew) z0 hB
      have z1a := cell_keep (w := W.drew) z1 hB
      refine hK.out _ _ ⟨z0a, z1a⟩ (fun hH => ?_)
      clear hK K
      try simp only [Act.put, List.setIfInBounds_toArray, List.set_cons_zero, List.set_cons_succ]
      refine wpAnyH_take (i := 15) (oi := { dst := _, op := _, type := _, pos := _, after := _, guard := _ }) (v := ?_) rfl (by kernel_rfl) (by kernel_rfl) (by kernel_rfl) (fun _ _ _ h => h) (Or.inl ⟨by rfl, ?_⟩) hH ?_
      rotate_left
      · intro w9 hSw
        try dsimp only at hSw
        obtain ⟨s0, s1⟩ := hSw
        go_simp
        try with_reducible rfl
      try simp only [Act.put, List.setIfInBounds_toArray, List.set_cons_zero, List.set_cons_succ]
      refine wpAnyH_done (by kernel_rfl) ?_ _
      replace h0 := (h0.now hBd).now hB
      replace h1 := (h1.now hBd).now hB
      replace hb0 := (hb0.now hBd).now hB
      replace hW := hW.trans ((hBd.trans hB).mono hW.size)
      clear hB k0 k1 z0 z1 z0a z1a hH hBd hcb hi hcode
      obtain ⟨k0, k1⟩ := hb0.c2
      have l0 := hb0.lt
      cases hc : timC ge gp B == 0
      · have hc' : (timC ge gp B != 0) = true := by simp only [bne, hc]; rfl
        have hE : Hid (startF ge gp N s = ([], timC ge gp B)) := by show _ = _; unfold startF; rw [hBH.out, if_neg (by simpa using hc)]
        clear hc
        generalize timC ge gp B = code at *
        go_wp2
        go_ret2
        exact RetMI.of hE.out ⟨_, rfl, OwnM.nil, hW⟩
      · have hc0 : timC ge gp B = 0 := by simpa using hc
        obtain ⟨hg, hb, o, ho⟩ := timC_zero hc0
        have hb2 := hBH.out
        rw [hb] at hb2
        simp only [Bool.and_eq_true, decide_eq_true_eq] at hb2
        obtain ⟨hge1, hge2⟩ := okGraph_ev hg
        have hgl := okGraph_len hg
        obtain ⟨n, rfl⟩ := Int.eq_ofNat_of_zero_le (show 0 ≤ ge by omega)
        have hN := (inB_iff _ _ _).1 hb2.1.1
        obtain ⟨M, rfl⟩ := Int.eq_ofNat_of_zero_le hN.1
        rw [Int.toNat_natCast] at ho
        have hln : Hid (s.length = n) := by have := hb2.1.2; show _ = _; omega
        have hbS : Hid (∀ x ∈ s, 0 ≤ x ∧ x ≤ ((1000000 : Nat) : Int)) := fun x hx => by have := (inB_iff _ _ _).1 (List.all_eq_true.1 hb2.2 x hx); omega
        have hE : Hid (startF n gp M s = if okV (timT gp o s M) = true then (timT gp o s M, 0) else ([], 3)) := by show _ = _; unfold startF; rw [hBH.out, if_pos hc0, Int.toNat_natCast, Int.toNat_natCast, ho]; rfl
        have hTab := Lib.hid (TabOk.times (c := 1000000) hg hgl (o := o) (s := s) (by have := (orderK_ok n o ho).len; omega) hln.out hbS.out M)
        have hg' := Lib.hid hg
        have ho' := Lib.hid ho
        rw [hc0]
        clear hc hc0 hb hb2 hg ho hBH
        go_wp2_with fail
        refine (spec_l13Times _ n gp o M _ s w1 h0 h1 hg' ho' (by omega) hln.out hbS).mono ?_
        rintro e w3 ⟨x, rfl, hM, hB⟩
        generalize timT gp o s M = T at *
        obtain ⟨XA, xc, rfl⟩ := hM.shape
        have hpos : Hid (∀ r ∈ T, ∀ x ∈ r, 0 ≤ x) := fun r hr x hx => (hTab.out.bd r hr x hx).1
        have hBt := hW.trans (hB.mono hW.size)
        have hL := hM.lst
        have hTmx := hL.len_le
        go_wp2
        go_loop [10] (fun i => ∃ k : Nat, k ≤ T.length ∧ i = .int .i64 k ∧ Hid (∀ j (hj : j < k) (hl : j < T.length), okR T[j] = true)) (fun i => T.length - (intOf i).toNat)
        case atStart => exact ⟨0, Nat.zero_le _, rfl, fun j hj => absurd hj (by omega)⟩
        case round =>
          obtain ⟨k, hk, rfl, hKO⟩ := hrel
          by_cases hlt : k < T.length
          · obtain ⟨b, off, cr, r, hA, -, d0, hr⟩ := hL.row k hlt
            cases hA
            obtain ⟨R, rc, hv⟩ := hr.shape
            rw [hv] at d0 hr
            have hpr : Hid (∀ x ∈ T[k], 0 ≤ x) := fun x hx => hpos.out _ (List.getElem_mem hlt) x hx
            clear hv
            cases hrk : okR T[k]
            · have hV : okV T = false := by
                unfold okV
                rw [List.all_eq_false]
                exact ⟨T[k], List.getElem_mem hlt, by rw [hrk]; simp⟩
              have hE' : Hid (startF n gp M s = ([], 3)) := by show _ = _; rw [hE.out, hV]; rfl
              have hrH := Lib.hid hrk
              clear hrk hV
              go_wp2_with (go_at_call 152; refine (spec_l01All _ _ _ hr hpr).mono ?_; rintro e w1 ⟨rfl, rfl⟩; rw [hrH.out])
              go_ret2
              exact RetMI.of hE'.out ⟨_, rfl, OwnM.nil, hBt⟩
            · have hKO' : Hid (∀ j (hj : j < k + 1) (hl : j < T.length), okR T[j] = true) := by
                intro j hj hl2
                rcases Nat.lt_or_ge j k with h | h
                · exact hKO.out j h hl2
                · obtain rfl : j = k := by omega
                  exact hrk
              have hrH := Lib.hid hrk
              clear hrk
              go_wp2_with (go_at_call 152; refine (spec_l01All _ _ _ hr hpr).mono ?_; rintro e w1 ⟨rfl, rfl⟩; rw [hrH.out])
              go_round
              case rel => exact ⟨k + 1, hlt, by go_num, hKO'⟩
              case measure => simp [intOf]; omega
          · obtain rfl : k = T.length := by omega
            have hV : okV T = true := by
              unfold okV
              rw [List.all_eq_true]
              intro r hr
              obtain ⟨j, hj, rfl⟩ := List.mem_iff_getElem.1 hr
              exact hKO.out j hj hj
            have hE' : Hid (startF n gp M s = (T, 0)) := by show _ = _; rw [hE.out, hV]; rfl
            clear hV
            go_wp2
            go_ret2
            exact RetMI.of hE'.out ⟨_, rfl, hM.rebase hW.size, hBt⟩
end Go.Proofs.Ytpkkkigiiaegfaa
