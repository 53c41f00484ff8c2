/-
  The walks of IsFiringTable, the program's and the reference's.
-/
import Derived.Test.YtkbhbmoogkjafaaTimT
import Derived.Test.YtkbhbmoogkjafaaStarT
namespace Go.Proofs.Ytkbhbmoogkjafaa
open Go.RowKit
set_option linter.unusedVariables false
set_option linter.unusedSimpArgs false
/-- What IsFiringTable gives. -/
def isTab (ge : Int) (gp : List Place) (T : List (List Int)) : Bool := decide (liveC ge gp = 0) && decide (T.length ≤ 50) && decide (timT gp ((orderF ge.toNat gp).getD []) (zeros ge.toNat) T.length = T)
theorem isTab_dead {ge : Int} {gp : List Place} {T : List (List Int)} (h : liveC ge gp ≠ 0) : isTab ge gp T = false := by simp [isTab, h]
theorem isTab_long {ge : Int} {gp : List Place} {T : List (List Int)} (h : 50 < T.length) : isTab ge gp T = false := by simp [isTab]; omega
theorem isTab_eq {n : Nat} {gp : List Place} {T : List (List Int)} {o : List Int} (h : liveC n gp = 0) (h2 : T.length ≤ 50) (ho : orderF n gp = some o) : isTab n gp T = decide (timT gp o (zeros n) T.length = T) := by
  simp [isTab, h, h2, ho]
theorem liveC_zero {ge : Int} {gp : List Place} (h : liveC ge gp = 0) : okGraph ge gp = true ∧ ∃ o, orderF ge.toNat gp = some o := by
  unfold liveC at h
  split at h
  · omega
  · rename_i h1
    split at h
    · omega
    · rename_i h2
      refine ⟨by simpa using h1, ?_⟩
      cases h9 : orderF ge.toNat gp with
      | none => rw [h9] at h2; exact absurd rfl h2
      | some o => exact ⟨o, rfl⟩

set_option maxHeartbeats 1000000 in
set_option maxRecDepth 100000 in
theorem slices_Equal_i64F (v u : Value) (l m : List Int) (w : World) (h0 : Lst intCell 1 w w.heap.size v l) (h1 : Lst intCell 1 w w.heap.size u m) :
    Calls Try.prog 118 #[v, u] w fun r w' => r = .returned (.bool (decide (l = m))) ∧ Below w.heap.size w w' := by
  obtain ⟨A, c, rfl⟩ := h0.shape
  obtain ⟨C, d, rfl⟩ := h1.shape
  have hl := h0.len_le
  have hm := h1.len_le
  by_cases hlm : l.length = m.length
  · have hne : ((l.length : Int) != (m.length : Int)) = false := by rw [hlm]; simp
    have hlm1 : l.length ≤ m.length := by omega
    have hlm2 : m.length ≤ l.length := by omega
    clear hlm
    go_enter Try.func118, Try.ntmps118
    go_wp2
    go_loopw [5, 13] (fun _ i wr => ∃ k : Nat, k ≤ l.length ∧ i = .int .i64 k ∧ Hid (l.take k = m.take k) ∧ Below w.heap.size w wr) (fun _ i _ => l.length - (intOf i).toNat)
    case atStart => exact ⟨0, Nat.zero_le _, rfl, rfl, Below.refl _ _⟩
    case round =>
      obtain ⟨k, hk, rfl, hE, hB⟩ := hrel
      by_cases hlt : k < l.length
      · have hlt' : k < m.length := by omega
        obtain ⟨b1, o1, hA, -, d0⟩ := ints_at (h0.now hB) k hlt
        cases hA
        obtain ⟨b2, o2, hA2, -, d1⟩ := ints_at (h1.now hB) k hlt'
        cases hA2
        have i1 : (0 : Int) ≤ (k : Int) := by omega
        have i2 : (k : Int) < (l.length : Int) := by omega
        have i3 : (k : Int) < (m.length : Int) := by omega
        obtain ⟨x, hx⟩ : ∃ x, l[k] = x := ⟨_, rfl⟩
        obtain ⟨y, hy⟩ : ∃ y, m[k] = y := ⟨_, rfl⟩
        rw [hx] at d0
        rw [hy] at d1
        have hxH := Lib.hid hx
        have hyH := Lib.hid hy
        clear hx hy
        have c0 : wr.drew.cell? ⟨b1, o1 + k, none⟩ = some (.int .i64 x) := d0
        have c1 : wr.drew.cell? ⟨b2, o2 + k, none⟩ = some (.int .i64 y) := d1
        clear d0 d1
        go_wp2
        refine wp_region_held_drew (S := fun w' => w'.cell? ⟨b1, o1 + k, none⟩ = some (.int .i64 x) ∧ w'.cell? ⟨b2, o2 + k, none⟩ = some (.int .i64 y)) (by kernel_rfl) ⟨c0, c1⟩ (fun hH => ?_)
        refine wpAnyH_take (i := 0) (oi := { dst := _, op := _, type := _, pos := _, after := _, guard := _ }) (v := ?_) rfl (by kernel_rfl) (by kernel_rfl) (by kernel_rfl) (fun _ _ _ h => h) (Or.inl ⟨by rfl, ?_⟩) hH ?_
        rotate_left
        · intro w9 hSw
          try dsimp only at hSw
          obtain ⟨s0, s1⟩ := hSw
          go_simp
          try with_reducible rfl
        try simp only [Act.put, List.setIfInBounds_toArray, List.set_cons_zero, List.set_cons_succ]
        refine wpAnyH_take (i := 1) (oi := { dst := _, op := _, type := _, pos := _, after := _, guard := _ }) (v := ?_) rfl (by kernel_rfl) (by kernel_rfl) (by kernel_rfl) (fun _ _ _ h => h) (Or.inl ⟨by rfl, ?_⟩) hH ?_
        rotate_left
        · intro w9 hSw
          try dsimp only at hSw
          obtain ⟨s0, s1⟩ := hSw
          go_simp
          try with_reducible rfl
        try simp only [Act.put, List.setIfInBounds_toArray, List.set_cons_zero, List.set_cons_succ]
        refine wpAnyH_take (i := 2) (oi := { dst := _, op := _, type := _, pos := _, after := _, guard := _ }) (v := ?_) rfl (by kernel_rfl) (by kernel_rfl) (by kernel_rfl) (fun _ _ _ h => h) (Or.inl ⟨by rfl, ?_⟩) hH ?_
        rotate_left
        · intro w9 hSw
          try dsimp only at hSw
          obtain ⟨s0, s1⟩ := hSw
          go_simp
          try with_reducible rfl
        try simp only [Act.put, List.setIfInBounds_toArray, List.set_cons_zero, List.set_cons_succ]
        refine wpAnyH_take (i := 3) (oi := { dst := _, op := _, type := _, pos := _, after := _, guard := _ }) (v := ?_) rfl (by kernel_rfl) (by kernel_rfl) (by kernel_rfl) (fun _ _ _ h => h) (Or.inl ⟨by rfl, ?_⟩) hH ?_
        rotate_left
        · intro w9 hSw
          try dsimp only at hSw
          obtain ⟨s0, s1⟩ := hSw
          go_simp
          try with_reducible rfl
        try simp only [Act.put, List.setIfInBounds_toArray, List.set_cons_zero, List.set_cons_succ]
        refine wpAnyH_take (i := 4) (oi := { dst := _, op := _, type := _, pos := _, after := _, guard := _ }) (v := ?_) rfl (by kernel_rfl) (by kernel_rfl) (by kernel_rfl) (fun _ _ _ h => h) (Or.inl ⟨by rfl, ?_⟩) hH ?_
        rotate_left
        · intro w9 hSw
          try dsimp only at hSw
          obtain ⟨s0, s1⟩ := hSw
          go_simp
          try with_reducible rfl
        try simp only [Act.put, List.setIfInBounds_toArray, List.set_cons_zero, List.set_cons_succ]
        refine wpAnyH_take (i := 5) (oi := { dst := _, op := _, type := _, pos := _, after := _, guard := _ }) (v := ?_) rfl (by kernel_rfl) (by kernel_rfl) (by kernel_rfl) (fun _ _ _ h => h) (Or.inl ⟨by rfl, ?_⟩) hH ?_
        rotate_left
        · intro w9 hSw
          try dsimp only at hSw
          obtain ⟨s0, s1⟩ := hSw
          go_simp
          try with_reducible rfl
        try simp only [Act.put, List.setIfInBounds_toArray, List.set_cons_zero, List.set_cons_succ]
        refine wpAnyH_take (i := 6) (oi := { dst := _, op := _, type := _, pos := _, after := _, guard := _ }) (v := ?_) rfl (by kernel_rfl) (by kernel_rfl) (by kernel_rfl) (fun _ _ _ h => h) (Or.inl ⟨by rfl, ?_⟩) hH ?_
        rotate_left
        · intro w9 hSw
          try dsimp only at hSw
          obtain ⟨s0, s1⟩ := hSw
          go_simp
          try with_reducible rfl
        try simp only [Act.put, List.setIfInBounds_toArray, List.set_cons_zero, List.set_cons_succ]
        refine wpAnyH_take (i := 7) (oi := { dst := _, op := _, type := _, pos := _, after := _, guard := _ }) (v := ?_) rfl (by kernel_rfl) (by kernel_rfl) (by kernel_rfl) (fun _ _ _ h => h) (Or.inl ⟨by rfl, ?_⟩) hH ?_
        rotate_left
        · intro w9 hSw
          try dsimp only at hSw
          obtain ⟨s0, s1⟩ := hSw
          go_simp
          try with_reducible rfl
        try simp only [Act.put, List.setIfInBounds_toArray, List.set_cons_zero, List.set_cons_succ]
        refine wpAnyH_take (i := 8) (oi := { dst := _, op := _, type := _, pos := _, after := _, guard := _ }) (v := ?_) rfl (by kernel_rfl) (by kernel_rfl) (by kernel_rfl) (fun _ _ _ h => h) (Or.inl ⟨by rfl, ?_⟩) hH ?_
        rotate_left
        · intro w9 hSw
          try dsimp only at hSw
          obtain ⟨s0, s1⟩ := hSw
          go_simp
          try with_reducible rfl
        try simp only [Act.put, List.setIfInBounds_toArray, List.set_cons_zero, List.set_cons_succ]
        refine wpAnyH_done (by kernel_rfl) ?_ _
        have hB' := hB.trans ((Below.refl _ wr).drew.mono hB.size)
        by_cases heq : x = y
        · have hq : (x != y) = false := by simp [heq]
          have hE' : Hid (l.take (k + 1) = m.take (k + 1)) := by show _ = _; rw [take_succ_get _ _ hlt, take_succ_get _ _ hlt', hE.out, hxH.out, hyH.out, heq]
          clear heq
          go_wp2
          go_roundw
          case rel => exact ⟨k + 1, hlt, by go_num, hE', hB'⟩
          case measure => simp [intOf]; omega
        · have hq : (x != y) = true := by simpa using heq
          have hF : Hid (decide (l = m) = false) := decide_eq_false (by intro h; subst h; exact heq (hxH.out.symm.trans hyH.out))
          clear heq
          go_wp2
          go_ret
          exact ⟨ret_bool hF.out.symm, hB'⟩
      · obtain rfl : k = l.length := by omega
        have hF : Hid (decide (l = m) = true) := decide_eq_true (by have h := hE.out; rw [List.take_length] at h; rw [h]; exact List.take_of_length_le (by omega))
        go_wp2
        go_ret
        exact ⟨ret_bool hF.out.symm, hB⟩
  · have hne : ((l.length : Int) != (m.length : Int)) = true := by rw [bne_iff_ne]; omega
    have hF : Hid (decide (l = m) = false) := decide_eq_false (by intro h; exact hlm (by rw [h]))
    clear hlm
    go_enter Try.func118, Try.ntmps118
    go_wp2
    go_ret
    exact ⟨ret_bool hF.out.symm, Below.refl _ _⟩
set_option maxHeartbeats 4000000 in
set_option maxRecDepth 100000 in
theorem slices_EqualFunc_i64 (v u : Value) (l m : List (List Int)) (w : World) (h0 : LstM w w.heap.size v l) (h1 : LstM w w.heap.size u m) :
    Calls Try.prog 117 #[v, u, .func (.func 118) #[] #[]] w fun r w' => r = .returned (.bool (decide (l = m))) ∧ Below w.heap.size w w' := by
  obtain ⟨A, c, rfl⟩ := h0.shape
  obtain ⟨C, d, rfl⟩ := h1.shape
  have hl := h0.len_le
  have hm := h1.len_le
  by_cases hlm : l.length = m.length
  · have hne : ((l.length : Int) != (m.length : Int)) = false := by rw [hlm]; simp
    have hlm1 : l.length ≤ m.length := by omega
    have hlm2 : m.length ≤ l.length := by omega
    clear hlm
    go_enter Try.func117, Try.ntmps117
    go_wp2
    go_loopw [7, 8, 9, 17] (fun _ _ _ i wr => ∃ k : Nat, k ≤ l.length ∧ i = .int .i64 k ∧ Hid (l.take k = m.take k) ∧ Below w.heap.size w wr) (fun _ _ _ i _ => l.length - (intOf i).toNat)
    case atStart => exact ⟨0, Nat.zero_le _, rfl, rfl, Below.refl _ _⟩
    case round =>
      obtain ⟨k, hk, rfl, hE, hB⟩ := hrel
      by_cases hlt : k < l.length
      · have hlt' : k < m.length := by omega
        obtain ⟨b1, o1, _, r1, hA, -, d0, hr1⟩ := (h0.now hB).row k hlt
        cases hA
        obtain ⟨b2, o2, _, r2, hA, -, d1, hr2⟩ := (h1.now hB).row k hlt'
        cases hA
        obtain ⟨R1, rn1, rc1⟩ := r1
        obtain ⟨R2, rn2, rc2⟩ := r2
        simp only [Ref.val] at d0 d1 hr1 hr2
        have i1 : (0 : Int) ≤ (k : Int) := by omega
        have i2 : (k : Int) < (l.length : Int) := by omega
        have i3 : (k : Int) < (m.length : Int) := by omega
        have hsm := Lib.hid (slices_Equal_i64F _ _ l[k] m[k] wr hr1 hr2)
        clear hr1 hr2 h0 h1
        by_cases heq : l[k] = m[k]
        · have hE' : Hid (l.take (k + 1) = m.take (k + 1)) := by show _ = _; rw [take_succ_get _ _ hlt, take_succ_get _ _ hlt', hE.out, heq]
          rw [decide_eq_true heq] at hsm
          clear heq
          go_wp2_with (go_at_call 118; refine (hsm.out).mono ?_; rintro e9 w9 ⟨rfl, hB9⟩)
          go_roundw
          case rel => exact ⟨k + 1, hlt, by go_num, hE', hB.trans (hB9.mono hB.size)⟩
          case measure => simp [intOf]; omega
        · have hF : Hid (decide (l = m) = false) := decide_eq_false (by intro h; subst h; exact heq rfl)
          rw [decide_eq_false heq] at hsm
          clear heq
          go_wp2_with (go_at_call 118; refine (hsm.out).mono ?_; rintro e9 w9 ⟨rfl, hB9⟩)
          go_ret
          exact ⟨ret_bool hF.out.symm, hB.trans (hB9.mono hB.size)⟩
      · obtain rfl : k = l.length := by omega
        have hF : Hid (decide (l = m) = true) := decide_eq_true (by have h := hE.out; rw [List.take_length] at h; rw [h]; exact List.take_of_length_le (by omega))
        go_wp2
        go_ret
        exact ⟨ret_bool hF.out.symm, hB⟩
  · have hne : ((l.length : Int) != (m.length : Int)) = true := by rw [bne_iff_ne]; omega
    have hF : Hid (decide (l = m) = false) := decide_eq_false (by intro h; exact hlm (by rw [h]))
    clear hlm
    go_enter Try.func117, Try.ntmps117
    go_wp2
    go_ret
    exact ⟨ret_bool hF.out.symm, Below.refl _ _⟩
set_option maxHeartbeats 4000000 in
set_option maxRecDepth 100000 in
theorem impl_IsFiringTable (v : Value) (ge : Int) (gp : List Place) (u : Value) (T : List (List Int)) (w : World) (h0 : Lst Place.cells 4 w w.heap.size v gp) (h1 : LstM w w.heap.size u T) :
    Calls Try.prog 24 #[.agg #[.int .i64 ge, v], u] w fun r w' => r = .returned (.bool (isTab ge gp T)) ∧ Below w.heap.size w w' := by
  obtain ⟨A, c, rfl⟩ := h0.shape
  obtain ⟨C, d, rfl⟩ := h1.shape
  go_enter Try.func24, Try.ntmps24
  go_wp2_with fail
  have hW : Below w.heap.size w (w.alloc (.cells #[.int .i64 ge, .slice A gp.length c] 26)) := (Below.refl _ _).alloc (Nat.le_refl _) _; have hb0 : Blk (w.alloc (.cells #[.int .i64 ge, .slice A gp.length c] 26)) w.heap.size 26 #[.int .i64 ge, .slice A gp.length c] := Blk.new _ _ _; replace h0 := h0.now hW; replace h1 := h1.now hW; generalize (w.alloc (.cells #[.int .i64 ge, .slice A gp.length c] 26)) = W at *
  refine (impl_IsEventGraph _ ge gp _ h0).mono ?_
  rintro e w1 ⟨rfl, hB⟩
  replace hW := hW.trans (hB.mono hW.size); replace h0 := h0.now hB; replace h1 := h1.now hB; replace hb0 := hb0.now hB
  clear hB
  obtain ⟨k0, k1⟩ := hb0.c2
  cases hg : okGraph ge gp
  · have hF : Hid (isTab ge gp T = false) := isTab_dead (by simp [liveC, hg])
    clear hg
    go_wp2
    go_ret
    exact ⟨ret_bool hF.out.symm, hW⟩
  · have hge := okGraph_ev hg
    obtain ⟨n, rfl⟩ := Int.eq_ofNat_of_zero_le (show 0 ≤ ge by omega)
    have hg' := Lib.hid hg
    clear hg
    go_wp2_with fail
    refine (impl_isLive _ n gp _ h0 hg').mono ?_
    rintro e w2 ⟨rfl, hB⟩
    clear k0 k1
    replace hW := hW.trans (hB.mono hW.size); replace h0 := h0.now hB; replace h1 := h1.now hB; replace hb0 := hb0.now hB
    clear hB
    obtain ⟨k0, k1⟩ := hb0.c2
    cases ho : orderF n gp with
    | none =>
      have hF : Hid (isTab n gp T = false) := isTab_dead (by simp [liveC, hg'.out, ho])
      simp only [Option.isSome_none]
      clear ho
      go_wp2
      go_ret
      exact ⟨ret_bool hF.out.symm, hW⟩
    | some o =>
      simp only [Option.isSome_some]
      have hlc : Hid (liveC n gp = 0) := by show _ = _; simp [liveC, hg'.out, ho]
      have ho' := Lib.hid ho
      clear ho
      by_cases hlen : (50 : Int) < (T.length : Int)
      · have hF : Hid (isTab n gp T = false) := isTab_long (by omega)
        go_wp2
        go_ret
        exact ⟨ret_bool hF.out.symm, hW⟩
      · have hF := Lib.hid (isTab_eq (T := T) hlc.out (by omega) ho'.out)
        have hmk := run_make_lst (P := Try.prog) intCell 1 intCell_len (by omega) 0 38 2 _ 8 Try.underlying38 info_i64 rfl .i64 .i64 n (by omega) (by omega)
        have hm1 := fun w => (hmk w).1
        have hm2 := Lib.hid fun (w : World) => (hmk w).2 w.heap.size (Nat.le_refl _)
        clear hmk
        have hBd : Below w2.heap.size w2 w2.drew := Below.drew (Below.refl _ w2)
        have l0 := hb0.lt
        have z0 : w2.drew.cell? ⟨w.heap.size, 0, none⟩ = some (.int .i64 n) := k0
        have z1 : w2.drew.cell? ⟨w.heap.size, 1, none⟩ = some (.slice A gp.length c) := k1
        have hZ : Below w2.drew.heap.size w2.drew (w2.drew.alloc (.cells (madeCells (intCell 0).toArray (n * 1)) 2)) := (Below.refl _ _).alloc (Nat.le_refl _) _
        have y0 := cell_keep z0 hZ
        have y1 := cell_keep z1 hZ
        have hO0 := hm2.out w2.drew
        simp only [Nat.mul_one] at hZ y0 y1 hO0
        go_wp2_with fail
        refine wp_region_held_drew (S := fun w' => w'.cell? ⟨w.heap.size, 0, none⟩ = some (.int .i64 (n : Nat)) ∧ w'.cell? ⟨w.heap.size, 1, none⟩ = some (.slice A gp.length c)) (by kernel_rfl) ⟨z0, z1⟩ (fun hH => ?_)
        refine wpAnyH_take (i := 0) (oi := { dst := _, op := _, type := _, pos := _, after := _, guard := _ }) (v := ?_) rfl (by kernel_rfl) (by kernel_rfl) (by kernel_rfl) (fun _ _ _ h => h) (Or.inl ⟨by rfl, ?_⟩) hH ?_
        rotate_left
        · intro w9 hSw
          try dsimp only at hSw
          obtain ⟨s0, s1⟩ := hSw
          go_simp
          try with_reducible rfl
        try simp only [Act.put, List.setIfInBounds_toArray, List.set_cons_zero, List.set_cons_succ]
        refine wpAnyH_take (i := 1) (oi := { dst := _, op := _, type := _, pos := _, after := _, guard := _ }) (v := ?_) rfl (by kernel_rfl) (by kernel_rfl) (by kernel_rfl) (fun _ _ _ h => h) (Or.inl ⟨by rfl, ?_⟩) hH ?_
        rotate_left
        · intro w9 hSw
          try dsimp only at hSw
          obtain ⟨s0, s1⟩ := hSw
          go_simp
          try with_reducible rfl
        try simp only [Act.put, List.setIfInBounds_toArray, List.set_cons_zero, List.set_cons_succ]
        refine wpAnyH_take (i := 2) (oi := { dst := _, op := _, type := _, pos := _, after := _, guard := _ }) (v := ?_) rfl (by kernel_rfl) (by kernel_rfl) (by kernel_rfl) (fun _ _ _ h => h) (Or.inl ⟨by rfl, ?_⟩) hH ?_
        rotate_left
        · intro w9 hSw
          try dsimp only at hSw
          obtain ⟨s0, s1⟩ := hSw
          go_simp
          try with_reducible rfl
        try simp only [Act.put, List.setIfInBounds_toArray, List.set_cons_zero, List.set_cons_succ]
        refine wpAnyH_take (i := 3) (oi := { dst := _, op := _, type := _, pos := _, after := _, guard := _ }) (v := ?_) rfl (by kernel_rfl) (by kernel_rfl) (by kernel_rfl) (fun _ _ _ h => h) (Or.inl ⟨by rfl, ?_⟩) hH ?_
        rotate_left
        · intro w9 hSw
          try dsimp only at hSw
          obtain ⟨s0, s1⟩ := hSw
          go_simp
          try with_reducible rfl
        try simp only [Act.put, List.setIfInBounds_toArray, List.set_cons_zero, List.set_cons_succ]
        refine wpAnyH_take (i := 4) (oi := { dst := _, op := _, type := _, pos := _, after := _, guard := _ }) (v := ?_) rfl (by kernel_rfl) (by kernel_rfl) (by kernel_rfl) (fun _ _ _ h => h) (Or.inl ⟨by rfl, ?_⟩) hH ?_
        rotate_left
        · intro w9 hSw
          try dsimp only at hSw
          obtain ⟨s0, s1⟩ := hSw
          go_simp
          try with_reducible rfl
        try simp only [Act.put, List.setIfInBounds_toArray, List.set_cons_zero, List.set_cons_succ]
        refine wpAnyH_take (i := 5) (oi := { dst := _, op := _, type := _, pos := _, after := _, guard := _ }) (v := ?_) rfl (by kernel_rfl) (by kernel_rfl) (by kernel_rfl) (fun _ _ _ h => h) (Or.inl ⟨by rfl, ?_⟩) hH ?_
        rotate_left
        · intro w9 hSw
          try dsimp only at hSw
          obtain ⟨s0, s1⟩ := hSw
          go_simp
          try with_reducible rfl
        try simp only [Act.put, List.setIfInBounds_toArray, List.set_cons_zero, List.set_cons_succ]
        refine wpAnyH_ready (rs := [6]) (by kernel_rfl) (by simp) ?_
        refine AllReadyH.cons rfl (fun K hK => ?_) AllReadyH.nil
        go_simp
        refine hK.out _ _ ⟨y0, y1⟩ (fun hH => ?_)
        clear hK K
        try simp only [Act.put, List.setIfInBounds_toArray, List.set_cons_zero, List.set_cons_succ]
        refine wpAnyH_ready (rs := [7]) (by kernel_rfl) (by simp) ?_
        refine AllReadyH.cons rfl (fun K hK => ?_) AllReadyH.nil
        go_simp
        go_at_call 106
        refine (impl_firingTimes _ n gp o T.length _ (zeros n) _ ((h0.now hBd).now hZ) hO0.lst hg' ho' (by omega) (zeros_len n) (Lib.hid (zeros_ok n))).mono ?_
        rintro e8 w8 ⟨x, rfl, hM, hB⟩
        have u0 := cell_keep y0 hB
        have u1 := cell_keep y1 hB
        have h1z := ((h1.now hBd).now hZ).now hB
        refine hK.out _ _ ⟨u0, u1⟩ (fun hH => ?_)
        clear hK K
        try simp only [Act.put, List.setIfInBounds_toArray, List.set_cons_zero, List.set_cons_succ]
        refine wpAnyH_ready (rs := [8]) (by kernel_rfl) (by simp) ?_
        refine AllReadyH.cons rfl (fun K hK => ?_) AllReadyH.nil
        go_simp
        go_at_call 117
        refine (slices_EqualFunc_i64 _ _ T (timT gp o (zeros n) T.length) _ h1z hM.lst).mono ?_
        rintro e9 w9 ⟨rfl, hB9⟩
        have v0 := cell_keep u0 hB9
        have v1 := cell_keep u1 hB9
        refine hK.out _ _ ⟨v0, v1⟩ (fun hH => ?_)
        clear hK K
        try simp only [Act.put, List.setIfInBounds_toArray, List.set_cons_zero, List.set_cons_succ]
        refine wpAnyH_take (i := 9) (oi := { dst := _, op := _, type := _, pos := _, after := _, guard := _ }) (v := ?_) rfl (by kernel_rfl) (by kernel_rfl) (by kernel_rfl) (fun _ _ _ h => h) (Or.inl ⟨by rfl, ?_⟩) hH ?_
        rotate_left
        · intro w9 hSw
          try dsimp only at hSw
          obtain ⟨s0, s1⟩ := hSw
          go_simp
          try with_reducible rfl
        try simp only [Act.put, List.setIfInBounds_toArray, List.set_cons_zero, List.set_cons_succ]
        refine wpAnyH_done (by kernel_rfl) ?_ _
        go_wp2
        go_ret
        exact ⟨ret_bool (by rw [hF.out]; exact decide_eq_decide.2 ⟨Eq.symm, Eq.symm⟩), hW.trans ((hBd.trans (hZ.trans ((hB.trans (hB9.mono hB.size)).mono hZ.size))).mono hW.size)⟩
set_option maxHeartbeats 4000000 in
set_option maxRecDepth 100000 in
theorem spec_IsFiringTable (v : Value) (ge : Int) (gp : List Place) (u : Value) (T : List (List Int)) (w : World) (h0 : Lst Place.cells 4 w w.heap.size v gp) (h1 : LstM w w.heap.size u T) :
    Calls Try.prog 25 #[.agg #[.int .i64 ge, v], u] w fun r w' => r = .returned (.bool (isTab ge gp T)) ∧ Below w.heap.size w w' := by
  obtain ⟨A, c, rfl⟩ := h0.shape
  obtain ⟨C, d, rfl⟩ := h1.shape
  go_enter Try.func25, Try.ntmps25
  go_wp2_with fail
  have hW : Below w.heap.size w (w.alloc (.cells #[.int .i64 ge, .slice A gp.length c] 26)) := (Below.refl _ _).alloc (Nat.le_refl _) _; have hb0 : Blk (w.alloc (.cells #[.int .i64 ge, .slice A gp.length c] 26)) w.heap.size 26 #[.int .i64 ge, .slice A gp.length c] := Blk.new _ _ _; replace h0 := h0.now hW; replace h1 := h1.now hW; generalize (w.alloc (.cells #[.int .i64 ge, .slice A gp.length c] 26)) = W at *
  refine (spec_l12Live _ ge gp _ h0).mono ?_
  rintro e w2 ⟨rfl, hB⟩
  replace hW := hW.trans (hB.mono hW.size); replace h0 := h0.now hB; replace h1 := h1.now hB; replace hb0 := hb0.now hB
  clear hB
  obtain ⟨k0, k1⟩ := hb0.c2
  by_cases hlc0 : liveC ge gp = 0
  · obtain ⟨hg, o, ho⟩ := liveC_zero hlc0
    have hge := okGraph_ev hg
    obtain ⟨n, rfl⟩ := Int.eq_ofNat_of_zero_le (show 0 ≤ ge by omega)
    rw [Int.toNat_natCast] at ho
    have hg' := Lib.hid hg
    have ho' := Lib.hid ho
    have hlc := Lib.hid hlc0
    rw [hlc0]
    clear hg ho hlc0
    by_cases hlen : (50 : Int) < (T.length : Int)
    · have hF : Hid (isTab n gp T = false) := isTab_long (by omega)
      go_wp2
      go_ret
      exact ⟨ret_bool hF.out.symm, hW⟩
    · have hF := Lib.hid (isTab_eq (T := T) hlc.out (by omega) ho'.out)
      have hmk := run_make_lst (P := Try.prog) intCell 1 intCell_len (by omega) 0 38 2 _ 8 Try.underlying38 info_i64 rfl .i64 .i64 n (by omega) (by omega)
      have hm1 := fun w => (hmk w).1
      have hm2 := Lib.hid fun (w : World) => (hmk w).2 w.heap.size (Nat.le_refl _)
      clear hmk
      have hBd : Below w2.heap.size w2 w2.drew := Below.drew (Below.refl _ w2)
      have l0 := hb0.lt
      have z0 : w2.drew.cell? ⟨w.heap.size, 0, none⟩ = some (.int .i64 n) := k0
      have z1 : w2.drew.cell? ⟨w.heap.size, 1, none⟩ = some (.slice A gp.length c) := k1
      have hZ : Below w2.drew.heap.size w2.drew (w2.drew.alloc (.cells (madeCells (intCell 0).toArray (n * 1)) 2)) := (Below.refl _ _).alloc (Nat.le_refl _) _
      have y0 := cell_keep z0 hZ
      have y1 := cell_keep z1 hZ
      have hO0 := hm2.out w2.drew
      simp only [Nat.mul_one] at hZ y0 y1 hO0
      go_wp2_with fail
      refine wp_region_held_drew (S := fun w' => w'.cell? ⟨w.heap.size, 0, none⟩ = some (.int .i64 (n : Nat)) ∧ w'.cell? ⟨w.heap.size, 1, none⟩ = some (.slice A gp.length c)) (by kernel_rfl) ⟨z0, z1⟩ (fun hH => ?_)
      refine wpAnyH_take (i := 0) (oi := { dst := _, op := _, type := _, pos := _, after := _, guard := _ }) (v := ?_) rfl (by kernel_rfl) (by kernel_rfl) (by kernel_rfl) (fun _ _ _ h => h) (Or.inl ⟨by rfl, ?_⟩) hH ?_
      rotate_left
      · intro w9 hSw
        try dsimp only at hSw
        obtain ⟨s0, s1⟩ := hSw
        go_simp
        try with_reducible rfl
      try simp only [Act.put, List.setIfInBounds_toArray, List.set_cons_zero, List.set_cons_succ]
      refine wpAnyH_take (i := 1) (oi := { dst := _, op := _, type := _, pos := _, after := _, guard := _ }) (v := ?_) rfl (by kernel_rfl) (by kernel_rfl) (by kernel_rfl) (fun _ _ _ h => h) (Or.inl ⟨by rfl, ?_⟩) hH ?_
      rotate_left
      · intro w9 hSw
        try dsimp only at hSw
        obtain ⟨s0, s1⟩ := hSw
        go_simp
        try with_reducible rfl
      try simp only [Act.put, List.setIfInBounds_toArray, List.set_cons_zero, List.set_cons_succ]
      refine wpAnyH_take (i := 2) (oi := { dst := _, op := _, type := _, pos := _, after := _, guard := _ }) (v := ?_) rfl (by kernel_rfl) (by kernel_rfl) (by kernel_rfl) (fun _ _ _ h => h) (Or.inl ⟨by rfl, ?_⟩) hH ?_
      rotate_left
      · intro w9 hSw
        try dsimp only at hSw
        obtain ⟨s0, s1⟩ := hSw
        go_simp
        try with_reducible rfl
      try simp only [Act.put, List.setIfInBounds_toArray, List.set_cons_zero, List.set_cons_succ]
      refine wpAnyH_take (i := 3) (oi := { dst := _, op := _, type := _, pos := _, after := _, guard := _ }) (v := ?_) rfl (by kernel_rfl) (by kernel_rfl) (by kernel_rfl) (fun _ _ _ h => h) (Or.inl ⟨by rfl, ?_⟩) hH ?_
      rotate_left
      · intro w9 hSw
        try dsimp only at hSw
        obtain ⟨s0, s1⟩ := hSw
        go_simp
        try with_reducible rfl
      try simp only [Act.put, List.setIfInBounds_toArray, List.set_cons_zero, List.set_cons_succ]
      refine wpAnyH_take (i := 4) (oi := { dst := _, op := _, type := _, pos := _, after := _, guard := _ }) (v := ?_) rfl (by kernel_rfl) (by kernel_rfl) (by kernel_rfl) (fun _ _ _ h => h) (Or.inl ⟨by rfl, ?_⟩) hH ?_
      rotate_left
      · intro w9 hSw
        try dsimp only at hSw
        obtain ⟨s0, s1⟩ := hSw
        go_simp
        try with_reducible rfl
      try simp only [Act.put, List.setIfInBounds_toArray, List.set_cons_zero, List.set_cons_succ]
      refine wpAnyH_take (i := 7) (oi := { dst := _, op := _, type := _, pos := _, after := _, guard := _ }) (v := ?_) rfl (by kernel_rfl) (by kernel_rfl) (by kernel_rfl) (fun _ _ _ h => h) (Or.inl ⟨by rfl, ?_⟩) hH ?_
      rotate_left
      · intro w9 hSw
        try dsimp only at hSw
        obtain ⟨s0, s1⟩ := hSw
        go_simp
        try with_reducible rfl
      try simp only [Act.put, List.setIfInBounds_toArray, List.set_cons_zero, List.set_cons_succ]
      refine wpAnyH_ready (rs := [5]) (by kernel_rfl) (by simp) ?_
      refine AllReadyH.cons rfl (fun K hK => ?_) AllReadyH.nil
      go_simp
      refine hK.out _ _ ⟨y0, y1⟩ (fun hH => ?_)
      clear hK K
      try simp only [Act.put, List.setIfInBounds_toArray, List.set_cons_zero, List.set_cons_succ]
      refine wpAnyH_ready (rs := [6]) (by kernel_rfl) (by simp) ?_
      refine AllReadyH.cons rfl (fun K hK => ?_) AllReadyH.nil
      go_simp
      go_at_call 109
      refine (spec_l13Times _ n gp o T.length _ (zeros n) _ ((h0.now hBd).now hZ) hO0.lst hg' ho' (by omega) (zeros_len n) (Lib.hid (zeros_ok n))).mono ?_
      rintro e8 w8 ⟨x, rfl, hM, hB⟩
      have u0 := cell_keep y0 hB
      have u1 := cell_keep y1 hB
      have h1z := ((h1.now hBd).now hZ).now hB
      refine hK.out _ _ ⟨u0, u1⟩ (fun hH => ?_)
      clear hK K
      try simp only [Act.put, List.setIfInBounds_toArray, List.set_cons_zero, List.set_cons_succ]
      refine wpAnyH_ready (rs := [8]) (by kernel_rfl) (by simp) ?_
      refine AllReadyH.cons rfl (fun K hK => ?_) AllReadyH.nil
      go_simp
      go_at_call 120
      refine (spec_l02Same _ _ (timT gp o (zeros n) T.length) T _ hM.lst h1z).mono ?_
      rintro e9 w9 ⟨rfl, hB9⟩
      have v0 := cell_keep u0 hB9
      have v1 := cell_keep u1 hB9
      refine hK.out _ _ ⟨v0, v1⟩ (fun hH => ?_)
      clear hK K
      try simp only [Act.put, List.setIfInBounds_toArray, List.set_cons_zero, List.set_cons_succ]
      refine wpAnyH_take (i := 9) (oi := { dst := _, op := _, type := _, pos := _, after := _, guard := _ }) (v := ?_) rfl (by kernel_rfl) (by kernel_rfl) (by kernel_rfl) (fun _ _ _ h => h) (Or.inl ⟨by rfl, ?_⟩) hH ?_
      rotate_left
      · intro w9 hSw
        try dsimp only at hSw
        obtain ⟨s0, s1⟩ := hSw
        go_simp
        try with_reducible rfl
      try simp only [Act.put, List.setIfInBounds_toArray, List.set_cons_zero, List.set_cons_succ]
      refine wpAnyH_done (by kernel_rfl) ?_ _
      go_wp2
      go_ret
      exact ⟨ret_bool (by rw [hF.out]; skip), hW.trans ((hBd.trans (hZ.trans ((hB.trans (hB9.mono hB.size)).mono hZ.size))).mono hW.size)⟩
  · have hF : Hid (isTab ge gp T = false) := isTab_dead hlc0
    obtain ⟨cd, hcd⟩ : ∃ cd, liveC ge gp = cd := ⟨_, rfl⟩
    rw [hcd] at hlc0 ⊢
    have q1 : (cd != 0) = true := by simpa using hlc0
    clear hcd hlc0
    go_wp2
    go_ret
    exact ⟨ret_bool hF.out.symm, hW⟩
end Go.Proofs.Ytkbhbmoogkjafaa
