/-
  ReachableMarkings: comparing and finding markings.
-/
import Derived.Test.YthamppcpjmnnkaaReachP
import Derived.Test.YthamppcpjmnnkaaDraw
import Derived.Test.YthamppcpjmnnkaaOrdI
namespace Go.Proofs.Ythamppcpjmnnkaa
open Go.RowKit
set_option linter.unusedVariables false
set_option linter.unusedSimpArgs false


set_option maxHeartbeats 1000000 in
set_option maxRecDepth 100000 in
theorem spec_l01Same (v u : Value) (l m : List Int) (w : World) (h0 : Lst intCell 1 w w.heap.size v l) (h1 : Lst intCell 1 w w.heap.size u m) :
    Calls Try.prog 180 #[v, u] w fun r w' => r = .returned (.bool (decide (l = m))) ∧ Below w.heap.size w w' := by
  obtain ⟨A, c, rfl⟩ := h0.shape
  obtain ⟨C, d, rfl⟩ := h1.shape
  have hl := h0.len_le
  have hm := h1.len_le
  by_cases hlm : l.length = m.length
  · have hne : ((l.length : Int) != (m.length : Int)) = false := by rw [hlm]; simp
    have hlm1 : l.length ≤ m.length := by omega
    have hlm2 : m.length ≤ l.length := by omega
    clear hlm
    go_enter Try.func180, Try.ntmps180
    go_wp2
    go_loopw [5] (fun i wr => ∃ k : Nat, k ≤ l.length ∧ i = .int .i64 k ∧ Hid (l.take k = m.take k) ∧ Below w.heap.size w wr) (fun i _ => l.length - (intOf i).toNat)
    case atStart => exact ⟨0, Nat.zero_le _, rfl, rfl, Below.refl _ _⟩
    case round =>
      obtain ⟨k, hk, rfl, hE, hB⟩ := hrel
      by_cases hlt : k < l.length
      · have hlt' : k < m.length := by omega
        obtain ⟨b1, o1, hA, -, d0⟩ := ints_at (h0.now hB) k hlt
        cases hA
        obtain ⟨b2, o2, hA2, -, d1⟩ := ints_at (h1.now hB) k hlt'
        cases hA2
        have i1 : (0 : Int) ≤ (k : Int) := by omega
        have i2 : (k : Int) < (l.length : Int) := by omega
        have i3 : (k : Int) < (m.length : Int) := by omega
        obtain ⟨x, hx⟩ : ∃ x, l[k] = x := ⟨_, rfl⟩
        obtain ⟨y, hy⟩ : ∃ y, m[k] = y := ⟨_, rfl⟩
        rw [hx] at d0
        rw [hy] at d1
        have hxH := Lib.hid hx
        have hyH := Lib.hid hy
        clear hx hy
        have c0 : wr.drew.cell? ⟨b1, o1 + k, none⟩ = some (.int .i64 x) := d0
        have c1 : wr.drew.cell? ⟨b2, o2 + k, none⟩ = some (.int .i64 y) := d1
        clear d0 d1
        go_wp2
        refine wp_region_held_drew (S := fun w' => w'.cell? ⟨b1, o1 + k, none⟩ = some (.int .i64 x) ∧ w'.cell? ⟨b2, o2 + k, none⟩ = some (.int .i64 y)) (by kernel_rfl) ⟨c0, c1⟩ (fun hH => ?_)
        refine wpAnyH_take (i := 0) (oi := { dst := _, op := _, type := _, pos := _, after := _, guard := _ }) (v := ?_) rfl (by kernel_rfl) (by kernel_rfl) (by kernel_rfl) (fun _ _ _ h => h) (Or.inl ⟨by rfl, ?_⟩) hH ?_
        rotate_left
        · intro w9 hSw
          try dsimp only at hSw
          obtain ⟨s0, s1⟩ := hSw
          go_simp
          try with_reducible rfl
        try simp only [Act.put, List.setIfInBounds_toArray, List.set_cons_zero, List.set_cons_succ]
        refine wpAnyH_take (i := 1) (oi := { dst := _, op := _, type := _, pos := _, after := _, guard := _ }) (v := ?_) rfl (by kernel_rfl) (by kernel_rfl) (by kernel_rfl) (fun _ _ _ h => h) (Or.inl ⟨by rfl, ?_⟩) hH ?_
        rotate_left
        · intro w9 hSw
          try dsimp only at hSw
          obtain ⟨s0, s1⟩ := hSw
          go_simp
          try with_reducible rfl
        try simp only [Act.put, List.setIfInBounds_toArray, List.set_cons_zero, List.set_cons_succ]
        refine wpAnyH_take (i := 2) (oi := { dst := _, op := _, type := _, pos := _, after := _, guard := _ }) (v := ?_) rfl (by kernel_rfl) (by kernel_rfl) (by kernel_rfl) (fun _ _ _ h => h) (Or.inl ⟨by rfl, ?_⟩) hH ?_
        rotate_left
        · intro w9 hSw
          try dsimp only at hSw
          obtain ⟨s0, s1⟩ := hSw
          go_simp
          try with_reducible rfl
        try simp only [Act.put, List.setIfInBounds_toArray, List.set_cons_zero, List.set_cons_succ]
        refine wpAnyH_take (i := 3) (oi := { dst := _, op := _, type := _, pos := _, after := _, guard := _ }) (v := ?_) rfl (by kernel_rfl) (by kernel_rfl) (by kernel_rfl) (fun _ _ _ h => h) (Or.inl ⟨by rfl, ?_⟩) hH ?_
        rotate_left
        · intro w9 hSw
          try dsimp only at hSw
          obtain ⟨s0, s1⟩ := hSw
          go_simp
          try with_reducible rfl
        try simp only [Act.put, List.setIfInBounds_toArray, List.set_cons_zero, List.set_cons_succ]
        refine wpAnyH_take (i := 4) (oi := { dst := _, op := _, type := _, pos := _, after := _, guard := _ }) (v := ?_) rfl (by kernel_rfl) (by kernel_rfl) (by kernel_rfl) (fun _ _ _ h => h) (Or.inl ⟨by rfl, ?_⟩) hH ?_
        rotate_left
        · intro w9 hSw
          try dsimp only at hSw
          obtain ⟨s0, s1⟩ := hSw
          go_simp
          try with_reducible rfl
        try simp only [Act.put, List.setIfInBounds_toArray, List.set_cons_zero, List.set_cons_succ]
        refine wpAnyH_take (i := 5) (oi := { dst := _, op := _, type := _, pos := _, after := _, guard := _ }) (v := ?_) rfl (by kernel_rfl) (by kernel_rfl) (by kernel_rfl) (fun _ _ _ h => h) (Or.inl ⟨by rfl, ?_⟩) hH ?_
        rotate_left
        · intro w9 hSw
          try dsimp only at hSw
          obtain ⟨s0, s1⟩ := hSw
          go_simp
          try with_reducible rfl
        try simp only [Act.put, List.setIfInBounds_toArray, List.set_cons_zero, List.set_cons_succ]
        refine wpAnyH_take (i := 6) (oi := { dst := _, op := _, type := _, pos := _, after := _, guard := _ }) (v := ?_) rfl (by kernel_rfl) (by kernel_rfl) (by kernel_rfl) (fun _ _ _ h => h) (Or.inl ⟨by rfl, ?_⟩) hH ?_
        rotate_left
        · intro w9 hSw
          try dsimp only at hSw
          obtain ⟨s0, s1⟩ := hSw
          go_simp
          try with_reducible rfl
        try simp only [Act.put, List.setIfInBounds_toArray, List.set_cons_zero, List.set_cons_succ]
        refine wpAnyH_take (i := 7) (oi := { dst := _, op := _, type := _, pos := _, after := _, guard := _ }) (v := ?_) rfl (by kernel_rfl) (by kernel_rfl) (by kernel_rfl) (fun _ _ _ h => h) (Or.inl ⟨by rfl, ?_⟩) hH ?_
        rotate_left
        · intro w9 hSw
          try dsimp only at hSw
          obtain ⟨s0, s1⟩ := hSw
          go_simp
          try with_reducible rfl
        try simp only [Act.put, List.setIfInBounds_toArray, List.set_cons_zero, List.set_cons_succ]
        refine wpAnyH_take (i := 8) (oi := { dst := _, op := _, type := _, pos := _, after := _, guard := _ }) (v := ?_) rfl (by kernel_rfl) (by kernel_rfl) (by kernel_rfl) (fun _ _ _ h => h) (Or.inl ⟨by rfl, ?_⟩) hH ?_
        rotate_left
        · intro w9 hSw
          try dsimp only at hSw
          obtain ⟨s0, s1⟩ := hSw
          go_simp
          try with_reducible rfl
        try simp only [Act.put, List.setIfInBounds_toArray, List.set_cons_zero, List.set_cons_succ]
        refine wpAnyH_done (by kernel_rfl) ?_ _
        have hB' := hB.trans ((Below.refl _ wr).drew.mono hB.size)
        by_cases heq : x = y
        · have hq : (x != y) = false := by simp [heq]
          have hE' : Hid (l.take (k + 1) = m.take (k + 1)) := by show _ = _; rw [take_succ_get _ _ hlt, take_succ_get _ _ hlt', hE.out, hxH.out, hyH.out, heq]
          clear heq
          go_wp2
          go_roundw
          case rel => exact ⟨k + 1, hlt, by go_num, hE', hB'⟩
          case measure => simp [intOf]; omega
        · have hq : (x != y) = true := by simpa using heq
          have hF : Hid (decide (l = m) = false) := decide_eq_false (by intro h; subst h; exact heq (hxH.out.symm.trans hyH.out))
          clear heq
          go_wp2
          go_ret
          exact ⟨ret_bool hF.out.symm, hB'⟩
      · obtain rfl : k = l.length := by omega
        have hF : Hid (decide (l = m) = true) := decide_eq_true (by have h := hE.out; rw [List.take_length] at h; rw [h]; exact List.take_of_length_le (by omega))
        go_wp2
        go_ret
        exact ⟨ret_bool hF.out.symm, hB⟩
  · have hne : ((l.length : Int) != (m.length : Int)) = true := by rw [bne_iff_ne]; omega
    have hF : Hid (decide (l = m) = false) := decide_eq_false (by intro h; exact hlm (by rw [h]))
    clear hlm
    go_enter Try.func180, Try.ntmps180
    go_wp2
    go_ret
    exact ⟨ret_bool hF.out.symm, Below.refl _ _⟩

set_option maxHeartbeats 1000000 in
set_option maxRecDepth 100000 in
theorem slices_Equal_i64 (v u : Value) (l m : List Int) (w : World) (h0 : Lst intCell 1 w w.heap.size v l) (h1 : Lst intCell 1 w w.heap.size u m) :
    Calls Try.prog 103 #[v, u] w fun r w' => r = .returned (.bool (decide (l = m))) ∧ Below w.heap.size w w' := by
  obtain ⟨A, c, rfl⟩ := h0.shape
  obtain ⟨C, d, rfl⟩ := h1.shape
  have hl := h0.len_le
  have hm := h1.len_le
  by_cases hlm : l.length = m.length
  · have hne : ((l.length : Int) != (m.length : Int)) = false := by rw [hlm]; simp
    have hlm1 : l.length ≤ m.length := by omega
    have hlm2 : m.length ≤ l.length := by omega
    clear hlm
    go_enter Try.func103, Try.ntmps103
    go_wp2
    go_loopw [5, 13] (fun _ i wr => ∃ k : Nat, k ≤ l.length ∧ i = .int .i64 k ∧ Hid (l.take k = m.take k) ∧ Below w.heap.size w wr) (fun _ i _ => l.length - (intOf i).toNat)
    case atStart => exact ⟨0, Nat.zero_le _, rfl, rfl, Below.refl _ _⟩
    case round =>
      obtain ⟨k, hk, rfl, hE, hB⟩ := hrel
      by_cases hlt : k < l.length
      · have hlt' : k < m.length := by omega
        obtain ⟨b1, o1, hA, -, d0⟩ := ints_at (h0.now hB) k hlt
        cases hA
        obtain ⟨b2, o2, hA2, -, d1⟩ := ints_at (h1.now hB) k hlt'
        cases hA2
        have i1 : (0 : Int) ≤ (k : Int) := by omega
        have i2 : (k : Int) < (l.length : Int) := by omega
        have i3 : (k : Int) < (m.length : Int) := by omega
        obtain ⟨x, hx⟩ : ∃ x, l[k] = x := ⟨_, rfl⟩
        obtain ⟨y, hy⟩ : ∃ y, m[k] = y := ⟨_, rfl⟩
        rw [hx] at d0
        rw [hy] at d1
        have hxH := Lib.hid hx
        have hyH := Lib.hid hy
        clear hx hy
        have c0 : wr.drew.cell? ⟨b1, o1 + k, none⟩ = some (.int .i64 x) := d0
        have c1 : wr.drew.cell? ⟨b2, o2 + k, none⟩ = some (.int .i64 y) := d1
        clear d0 d1
        go_wp2
        refine wp_region_held_drew (S := fun w' => w'.cell? ⟨b1, o1 + k, none⟩ = some (.int .i64 x) ∧ w'.cell? ⟨b2, o2 + k, none⟩ = some (.int .i64 y)) (by kernel_rfl) ⟨c0, c1⟩ (fun hH => ?_)
        refine wpAnyH_take (i := 0) (oi := { dst := _, op := _, type := _, pos := _, after := _, guard := _ }) (v := ?_) rfl (by kernel_rfl) (by kernel_rfl) (by kernel_rfl) (fun _ _ _ h => h) (Or.inl ⟨by rfl, ?_⟩) hH ?_
        rotate_left
        · intro w9 hSw
          try dsimp only at hSw
          obtain ⟨s0, s1⟩ := hSw
          go_simp
          try with_reducible rfl
        try simp only [Act.put, List.setIfInBounds_toArray, List.set_cons_zero, List.set_cons_succ]
        refine wpAnyH_take (i := 1) (oi := { dst := _, op := _, type := _, pos := _, after := _, guard := _ }) (v := ?_) rfl (by kernel_rfl) (by kernel_rfl) (by kernel_rfl) (fun _ _ _ h => h) (Or.inl ⟨by rfl, ?_⟩) hH ?_
        rotate_left
        · intro w9 hSw
          try dsimp only at hSw
          obtain ⟨s0, s1⟩ := hSw
          go_simp
          try with_reducible rfl
        try simp only [Act.put, List.setIfInBounds_toArray, List.set_cons_zero, List.set_cons_succ]
        refine wpAnyH_take (i := 2) (oi := { dst := _, op := _, type := _, pos := _, after := _, guard := _ }) (v := ?_) rfl (by kernel_rfl) (by kernel_rfl) (by kernel_rfl) (fun _ _ _ h => h) (Or.inl ⟨by rfl, ?_⟩) hH ?_
        rotate_left
        · intro w9 hSw
          try dsimp only at hSw
          obtain ⟨s0, s1⟩ := hSw
          go_simp
          try with_reducible rfl
        try simp only [Act.put, List.setIfInBounds_toArray, List.set_cons_zero, List.set_cons_succ]
        refine wpAnyH_take (i := 3) (oi := { dst := _, op := _, type := _, pos := _, after := _, guard := _ }) (v := ?_) rfl (by kernel_rfl) (by kernel_rfl) (by kernel_rfl) (fun _ _ _ h => h) (Or.inl ⟨by rfl, ?_⟩) hH ?_
        rotate_left
        · intro w9 hSw
          try dsimp only at hSw
          obtain ⟨s0, s1⟩ := hSw
          go_simp
          try with_reducible rfl
        try simp only [Act.put, List.setIfInBounds_toArray, List.set_cons_zero, List.set_cons_succ]
        refine wpAnyH_take (i := 4) (oi := { dst := _, op := _, type := _, pos := _, after := _, guard := _ }) (v := ?_) rfl (by kernel_rfl) (by kernel_rfl) (by kernel_rfl) (fun _ _ _ h => h) (Or.inl ⟨by rfl, ?_⟩) hH ?_
        rotate_left
        · intro w9 hSw
          try dsimp only at hSw
          obtain ⟨s0, s1⟩ := hSw
          go_simp
          try with_reducible rfl
        try simp only [Act.put, List.setIfInBounds_toArray, List.set_cons_zero, List.set_cons_succ]
        refine wpAnyH_take (i := 5) (oi := { dst := _, op := _, type := _, pos := _, after := _, guard := _ }) (v := ?_) rfl (by kernel_rfl) (by kernel_rfl) (by kernel_rfl) (fun _ _ _ h => h) (Or.inl ⟨by rfl, ?_⟩) hH ?_
        rotate_left
        · intro w9 hSw
          try dsimp only at hSw
          obtain ⟨s0, s1⟩ := hSw
          go_simp
          try with_reducible rfl
        try simp only [Act.put, List.setIfInBounds_toArray, List.set_cons_zero, List.set_cons_succ]
        refine wpAnyH_take (i := 6) (oi := { dst := _, op := _, type := _, pos := _, after := _, guard := _ }) (v := ?_) rfl (by kernel_rfl) (by kernel_rfl) (by kernel_rfl) (fun _ _ _ h => h) (Or.inl ⟨by rfl, ?_⟩) hH ?_
        rotate_left
        · intro w9 hSw
          try dsimp only at hSw
          obtain ⟨s0, s1⟩ := hSw
          go_simp
          try with_reducible rfl
        try simp only [Act.put, List.setIfInBounds_toArray, List.set_cons_zero, List.set_cons_succ]
        refine wpAnyH_take (i := 7) (oi := { dst := _, op := _, type := _, pos := _, after := _, guard := _ }) (v := ?_) rfl (by kernel_rfl) (by kernel_rfl) (by kernel_rfl) (fun _ _ _ h => h) (Or.inl ⟨by rfl, ?_⟩) hH ?_
        rotate_left
        · intro w9 hSw
          try dsimp only at hSw
          obtain ⟨s0, s1⟩ := hSw
          go_simp
          try with_reducible rfl
        try simp only [Act.put, List.setIfInBounds_toArray, List.set_cons_zero, List.set_cons_succ]
        refine wpAnyH_take (i := 8) (oi := { dst := _, op := _, type := _, pos := _, after := _, guard := _ }) (v := ?_) rfl (by kernel_rfl) (by kernel_rfl) (by kernel_rfl) (fun _ _ _ h => h) (Or.inl ⟨by rfl, ?_⟩) hH ?_
        rotate_left
        · intro w9 hSw
          try dsimp only at hSw
          obtain ⟨s0, s1⟩ := hSw
          go_simp
          try with_reducible rfl
        try simp only [Act.put, List.setIfInBounds_toArray, List.set_cons_zero, List.set_cons_succ]
        refine wpAnyH_done (by kernel_rfl) ?_ _
        have hB' := hB.trans ((Below.refl _ wr).drew.mono hB.size)
        by_cases heq : x = y
        · have hq : (x != y) = false := by simp [heq]
          have hE' : Hid (l.take (k + 1) = m.take (k + 1)) := by show _ = _; rw [take_succ_get _ _ hlt, take_succ_get _ _ hlt', hE.out, hxH.out, hyH.out, heq]
          clear heq
          go_wp2
          go_roundw
          case rel => exact ⟨k + 1, hlt, by go_num, hE', hB'⟩
          case measure => simp [intOf]; omega
        · have hq : (x != y) = true := by simpa using heq
          have hF : Hid (decide (l = m) = false) := decide_eq_false (by intro h; subst h; exact heq (hxH.out.symm.trans hyH.out))
          clear heq
          go_wp2
          go_ret
          exact ⟨ret_bool hF.out.symm, hB'⟩
      · obtain rfl : k = l.length := by omega
        have hF : Hid (decide (l = m) = true) := decide_eq_true (by have h := hE.out; rw [List.take_length] at h; rw [h]; exact List.take_of_length_le (by omega))
        go_wp2
        go_ret
        exact ⟨ret_bool hF.out.symm, hB⟩
  · have hne : ((l.length : Int) != (m.length : Int)) = true := by rw [bne_iff_ne]; omega
    have hF : Hid (decide (l = m) = false) := decide_eq_false (by intro h; exact hlm (by rw [h]))
    clear hlm
    go_enter Try.func103, Try.ntmps103
    go_wp2
    go_ret
    exact ⟨ret_bool hF.out.symm, Below.refl _ _⟩
theorem own_new1 {α : Type} (f : α → List Value) (size : Nat) (hf : ∀ x, (f x).length = size) (w : World) (e : TypeId) (base : Nat) (hb : base ≤ w.heap.size) (x : α) (hs : size ≤ 64) : Own f size e (w.alloc (.cells (f x).toArray e)) base (.slice (some ⟨w.heap.size, 0, none⟩) 1 1) ([x] : List α) :=
  ⟨by simp [hf], .inr ⟨w.heap.size, 1, (f x).toArray, rfl, hb, heap_alloc_new w _, Nat.le_refl _, by simp [maxLen], by simp [hf], by simp; exact List.take_of_length_le (Nat.le_of_eq (hf x))⟩⟩
set_option maxHeartbeats 1000000 in
set_option maxRecDepth 100000 in
theorem spec_l17Find (v : Value) (T : List (List Int)) (u : Value) (m : List Int) (w : World) (h0 : LstM w w.heap.size v T) (h1 : Lst intCell 1 w w.heap.size u m) :
    Calls Try.prog 108 #[v, u] w fun r w' => r = .returned (.bool (T.contains m)) ∧ Below w.heap.size w w' := by
  obtain ⟨A, cA, rfl⟩ := h0.shape
  have hl := h0.len_le
  go_enter Try.func108, Try.ntmps108
  go_wp2
  go_loopw [5] (fun i wr => ∃ k : Nat, k ≤ T.length ∧ i = .int .i64 k ∧ Hid (∀ j (hj : j < k) (hl : j < T.length), T[j] ≠ m) ∧ Below w.heap.size w wr) (fun i _ => T.length - (intOf i).toNat)
  case atStart => exact ⟨0, Nat.zero_le _, rfl, fun j hj => absurd hj (by omega), Below.refl _ _⟩
  case round =>
    obtain ⟨k, hk, rfl, hN, hB⟩ := hrel
    have hs := hB.size
    by_cases hlt : k < T.length
    · obtain ⟨b, off, cr, r, hA, -, d0, hr⟩ := (h0.now hB).row k hlt
      cases hA
      obtain ⟨R, rc, hv⟩ := hr.shape
      rw [hv] at d0 hr
      clear hv
      cases heq : decide (T[k] = m)
      · have hN' : Hid (∀ j (hj : j < k + 1) (hl : j < T.length), T[j] ≠ m) := by
          intro j hj hl2
          rcases Nat.lt_or_ge j k with h | h
          · exact hN.out j h hl2
          · obtain rfl : j = k := by omega
            simpa using heq
        have heH := Lib.hid heq
        clear heq
        go_wp2_with (go_at_call 180; refine (spec_l01Same _ _ _ _ _ hr (h1.now hB)).mono ?_; rintro e w1 ⟨rfl, hB1⟩; rw [heH.out])
        go_roundw
        case rel => exact ⟨k + 1, hlt, by go_num, hN', hB.trans (hB1.mono hs)⟩
        case measure => simp [intOf]; omega
      · have hF : Hid (T.contains m = true) := by
          show _ = _
          have : T[k] = m := by simpa using heq
          rw [List.contains_iff_mem, ← this]
          exact List.getElem_mem hlt
        have heH := Lib.hid heq
        clear heq
        go_wp2_with (go_at_call 180; refine (spec_l01Same _ _ _ _ _ hr (h1.now hB)).mono ?_; rintro e w1 ⟨rfl, hB1⟩; rw [heH.out])
        go_ret
        exact ⟨ret_bool hF.out.symm, hB.trans (hB1.mono hs)⟩
    · obtain rfl : k = T.length := by omega
      have hF : Hid (T.contains m = false) := by
        show _ = _
        rw [← Bool.not_eq_true, List.contains_iff_mem]
        intro h
        obtain ⟨j, hj, e⟩ := List.mem_iff_getElem.1 h
        exact hN.out j hj hj e
      go_wp2
      go_ret
      exact ⟨ret_bool hF.out.symm, hB⟩
set_option maxHeartbeats 1000000 in
set_option maxRecDepth 100000 in
theorem impl_Reach1 (v : Value) (l : List Int) (nb : Nat) (u : Value) (m : List Int) (w : World) (h0 : Lst intCell 1 w w.heap.size v l) (hc : w.cell? ⟨nb, 0, none⟩ = some u) (h1 : Lst intCell 1 w w.heap.size u m) :
    Calls Try.prog 102 #[v, .pointer (some ⟨nb, 0, none⟩)] w fun r w' => r = .returned (.bool (decide (l = m))) ∧ Below w.heap.size w w' := by
  go_enter Try.func102, Try.ntmps102
  go_wp2_with (go_at_call 103; refine (slices_Equal_i64 _ _ _ _ _ h0 h1).mono ?_; rintro e w1 ⟨rfl, hB1⟩)
  go_ret
  exact ⟨rfl, hB1⟩
set_option maxHeartbeats 1000000 in
set_option maxRecDepth 100000 in
theorem reach_index (v : Value) (T : List (List Int)) (nb : Nat) (u : Value) (m : List Int) (w : World) (h0 : LstM w w.heap.size v T) (hc : w.cell? ⟨nb, 0, none⟩ = some u) (h1 : Lst intCell 1 w w.heap.size u m) :
    Calls Try.prog 177 #[v, .func (.func 102) #[] #[.pointer (some ⟨nb, 0, none⟩)]] w fun r w' => r = .returned (.int .i64 (idxP (fun l => decide (l = m)) T)) ∧ Below w.heap.size w w' := by
  obtain ⟨A, cA, rfl⟩ := h0.shape
  have hl := h0.len_le
  go_enter Try.func177, Try.ntmps177
  go_wp2
  go_loopw [5, 8] (fun _ i wr => ∃ k : Nat, k ≤ T.length ∧ i = .int .i64 k ∧ Hid (∀ j (hj : j < k) (hl : j < T.length), decide (T[j] = m) = false) ∧ Below w.heap.size w wr) (fun _ i _ => T.length - (intOf i).toNat)
  case atStart => exact ⟨0, Nat.zero_le _, rfl, fun j hj => absurd hj (by omega), Below.refl _ _⟩
  case round =>
    obtain ⟨k, hk, rfl, hN, hB⟩ := hrel
    have hs := hB.size
    by_cases hlt : k < T.length
    · obtain ⟨b, off, cr, r, hA, -, d0, hr⟩ := (h0.now hB).row k hlt
      cases hA
      obtain ⟨R, rc, hv⟩ := hr.shape
      rw [hv] at d0 hr
      clear hv
      cases heq : decide (T[k] = m)
      · have hN' : Hid (∀ j (hj : j < k + 1) (hl : j < T.length), decide (T[j] = m) = false) := by
          intro j hj hl2
          rcases Nat.lt_or_ge j k with h | h
          · exact hN.out j h hl2
          · obtain rfl : j = k := by omega
            exact heq
        have heH := Lib.hid heq
        clear heq
        go_wp2_with (go_at_call 102; refine (impl_Reach1 _ _ _ _ _ _ hr (cell_keep hc hB) (h1.now hB)).mono ?_; rintro e w1 ⟨rfl, hB1⟩; rw [heH.out])
        go_roundw
        case rel => exact ⟨k + 1, hlt, by go_num, hN', hB.trans (hB1.mono hs)⟩
        case measure => simp [intOf]; omega
      · have hF : Hid (idxP (fun l => decide (l = m)) T = k) := idxP_hit (fun l => decide (l = m)) T k hlt (fun j hj => hN.out j hj (by omega)) heq
        have heH := Lib.hid heq
        clear heq
        go_wp2_with (go_at_call 102; refine (impl_Reach1 _ _ _ _ _ _ hr (cell_keep hc hB) (h1.now hB)).mono ?_; rintro e w1 ⟨rfl, hB1⟩; rw [heH.out])
        go_ret
        exact ⟨ret_int hF.out.symm, hB.trans (hB1.mono hs)⟩
    · obtain rfl : k = T.length := by omega
      have hF : Hid (idxP (fun l => decide (l = m)) T = -1) := idxP_miss (fun l => decide (l = m)) T fun j hj => hN.out j hj hj
      go_wp2
      go_ret
      exact ⟨ret_int hF.out.symm, hB⟩
theorem any_contains (T : List (List Int)) (m : List Int) : (T.any fun l => decide (l = m)) = T.contains m := by
  rw [Bool.eq_iff_iff, List.contains_iff_mem]
  simp
set_option maxHeartbeats 1000000 in
set_option maxRecDepth 100000 in
theorem reach_contains (v : Value) (T : List (List Int)) (nb : Nat) (u : Value) (m : List Int) (w : World) (h0 : LstM w w.heap.size v T) (hc : w.cell? ⟨nb, 0, none⟩ = some u) (h1 : Lst intCell 1 w w.heap.size u m) :
    Calls Try.prog 101 #[v, .func (.func 102) #[] #[.pointer (some ⟨nb, 0, none⟩)]] w fun r w' => r = .returned (.bool (T.contains m)) ∧ Below w.heap.size w w' := by
  go_enter Try.func101, Try.ntmps101
  go_wp2_with (go_at_call 177; refine (reach_index _ _ _ _ _ _ h0 hc h1).mono ?_; rintro e w1 ⟨rfl, hB1⟩)
  go_ret
  exact ⟨ret_bool ((idxP_any _ _).trans (any_contains T m)), hB1⟩
theorem reach_some {n : Nat} {gp : List Place} {F : List (List Int)} (hok : okGraph n gp = true) (h : reAll gp n 301 0 [firstF gp] = some F) : reachF n gp = (F, 0) := by
  unfold reachF
  rw [hok, Int.toNat_natCast, h]
  rfl
theorem reach_none {n : Nat} {gp : List Place} (hok : okGraph n gp = true) (h : reAll gp n 301 0 [firstF gp] = none) : reachF n gp = ([], 3) := by
  unfold reachF
  rw [hok, Int.toNat_natCast, h]
  rfl
theorem append_get {α : Type} {G F r : List α} (h : G = F ++ r) (i : Nat) (hi : i < F.length) (hg : i < G.length) : G[i] = F[i] := by
  subst h
  exact List.getElem_append_left hi
set_option maxHeartbeats 8000000 in
set_option maxRecDepth 100000 in
theorem spec_ReachableMarkings (v : Value) (ge : Int) (gp : List Place) (w : World) (h0 : Lst Place.cells 4 w w.heap.size v gp) :
    Calls Try.prog 18 #[.agg #[.int .i64 ge, v]] w (RetMI w (reachF ge gp).1 (reachF ge gp).2) := by
  obtain ⟨A, c, rfl⟩ := h0.shape
  go_enter Try.func18, Try.ntmps18
  go_wp2_with fail
  have hW : Below w.heap.size w (w.alloc (.cells #[.int .i64 ge, .slice A gp.length c] 26)) := (Below.refl _ _).alloc (Nat.le_refl _) _; have hb0 : Blk (w.alloc (.cells #[.int .i64 ge, .slice A gp.length c] 26)) w.heap.size 26 #[.int .i64 ge, .slice A gp.length c] := Blk.new _ _ _; replace h0 := h0.now hW; generalize (w.alloc (.cells #[.int .i64 ge, .slice A gp.length c] 26)) = W at *
  refine (spec_IsEventGraph _ _ _ _ h0).mono ?_
  rintro e w1 ⟨rfl, hB⟩
  replace hW := hW.trans (hB.mono hW.size); replace h0 := h0.now hB; replace hb0 := hb0.now hB
  obtain ⟨k0, k1⟩ := hb0.c2
  clear hB
  cases hg : okGraph ge gp
  · have hE : Hid (reachF ge gp = ([], 1)) := by show _ = _; simp [reachF, hg]
    clear hg
    go_wp2
    go_ret2
    exact RetMI.of hE.out ⟨_, rfl, OwnM.nil, hW⟩
  · obtain ⟨hge1, hge2⟩ := okGraph_ev hg
    have hgl := okGraph_len hg
    obtain ⟨n, rfl⟩ := Int.eq_ofNat_of_zero_le (show 0 ≤ ge by omega)
    have hg' := Lib.hid hg
    clear hg
    have hs1 := hW.size
    go_wp2_with fail
    refine (spec_l17First _ _ _ _ h0 hgl).mono ?_
    rintro e w2 ⟨x, rfl, hO, hB⟩
    obtain ⟨R, rc, rfl⟩ := own_shape_n hO (firstF_len gp)
    have hZ : Below w2.heap.size w2 (w2.alloc (.cells #[.slice R gp.length rc] 32)) := (Below.refl _ _).alloc (Nat.le_refl _) _
    have hM0 : OwnM (w2.alloc (.cells #[.slice R gp.length rc] 32)) w1.heap.size (.slice (some ⟨w2.heap.size, 0, none⟩) 1 1) [firstF gp] :=
      ⟨[⟨R, gp.length, rc⟩], rfl, own_new1 Ref.cells 1 Ref.cells_len w2 _ _ hB.size ⟨R, gp.length, rc⟩ (by omega), fun i q1 q2 => by
        obtain rfl : i = 0 := by simp at q1; omega
        exact hO.now hZ, fun i j q1 q2 q3 => by simp at q1 q2; omega⟩
    have hB0 := hB.trans (hZ.mono hB.size)
    have hRk0 := Lib.hid (ReOk.start hg'.out)
    clear hO hB hZ
    go_wp2
    go_loopw [4, 5, 6, 7, 8] (fun ov iv _ _ _ wr => ∃ (i : Nat) (F : List (List Int)) (Y : Option Addr) (cy : Nat), iv = .int .i64 i ∧ ov = .slice Y F.length cy ∧ i ≤ F.length ∧ Hid (ReOk gp F) ∧ Hid (reAll gp n (301 - i) i F = reAll gp n 301 0 [firstF gp]) ∧ OwnM wr w1.heap.size (.slice Y F.length cy) F ∧ Below w1.heap.size w1 wr) (fun _ iv _ _ _ _ => 301 - (intOf iv).toNat)
    case atStart => exact ⟨0, [firstF gp], _, _, rfl, rfl, Nat.zero_le _, hRk0, rfl, hM0, hB0⟩
    case round =>
      clear hM0 hB0 hRk0
      obtain ⟨i, F, Y, cy, rfl, rfl, hi, hRk, hRA, hM, hB⟩ := hrel
      obtain ⟨wo, hwo⟩ : ∃ x, x = wr := ⟨_, rfl⟩
      subst hwo
      have hF3 := hRk.out.len
      by_cases hlt : i < F.length
      · have hgo := Lib.hid ((hRA.out.symm.trans (reAll_go hRk.out hlt)).symm)
        have hev0 := Lib.hid (fun k G (h : reEv gp k F[i] F = some G) => hRk.out.ev F[i] k G h)
        have hcok := Lib.hid (hRk.out.ok _ (List.getElem_mem hlt))
        have hnn := Lib.hid (fun k (hk : k ≤ n) (h : reEv gp k F[i] F = none) => reEv_none gp F[i] F k n hk h)
        have hsucc := Lib.hid (fun k => reEv_succ gp k F[i] F)
        have hget := Lib.hid (fun (G : List (List Int)) r (h : G = F ++ r) hg2 => append_get h i hlt hg2)
        have hst0 : Hid (reEv gp 0 F[i] F = some F) := rfl
        go_wp2
        generalize F[i] = cur at *
        go_loopw [4, 6, 7, 8] (fun ov ev _ _ wr => ∃ (e : Nat) (G : List (List Int)) (Y : Option Addr) (cy : Nat), e ≤ n ∧ ev = .int .i64 e ∧ ov = .slice Y G.length cy ∧ Hid (reEv gp e cur F = some G) ∧ OwnM wr w1.heap.size (.slice Y G.length cy) G ∧ Below w1.heap.size w1 wr) (fun _ ev _ _ _ => n - (intOf ev).toNat)
        case atStart => exact ⟨0, F, _, _, Nat.zero_le _, rfl, rfl, hst0, hM, hB⟩
        case round =>
          clear hM hB
          obtain ⟨e, G, Y, cy, he, rfl, rfl, hEv, hM, hB⟩ := hrel
          have hs := hB.size
          obtain ⟨hGk, r, hGr⟩ := hev0.out e G hEv.out
          have hG3 := hGk.len
          have hGl : F.length ≤ G.length := by rw [hGr]; simp
          have hGi : i < G.length := by omega
          have hcur := Lib.hid (hget.out G r hGr hGi)
          have hGkH := Lib.hid hGk
          clear hGr hGk
          by_cases hlt2 : e < n
          · have hS := hsucc.out e
            rw [hEv.out] at hS
            simp only [reStep, Option.bind_some] at hS
            have hSH := Lib.hid hS
            clear hS
            obtain ⟨g, off, cu, r1, hu, hgb, r0, hr⟩ := hM.lst.row i hGi
            cases hu
            rw [hcur.out] at hr
            obtain ⟨R1, rc1, hv⟩ := hr.shape
            rw [hv] at hr r0
            have hcl := Lib.hid (okMarking_len hcok.out)
            have hclen : cur.length = gp.length := hcl.out
            rw [hclen] at hr r0
            clear hv hclen
            have hbr := hb0.now hB
            obtain ⟨k0, k1⟩ := hbr.c2
            have l0 := hbr.lt
            have hBd : Below wr.heap.size wr wr.drew := Below.drew (Below.refl _ wr)
            have z0 : wr.drew.cell? ⟨w.heap.size, 0, none⟩ = some (.int .i64 n) := k0
            have z1 : wr.drew.cell? ⟨w.heap.size, 1, none⟩ = some (.slice A gp.length c) := k1
            have z2 : wr.drew.cell? ⟨g, off + i, none⟩ = some (.slice R1 gp.length rc1) := r0
            have j1 : (0 : Int) ≤ (i : Int) := by omega
            have j2 : (i : Int) < (G.length : Int) := by omega
            go_wp2
            refine wp_region_held_drew (S := fun w' => w'.cell? ⟨w.heap.size, 0, none⟩ = some (.int .i64 n) ∧ w'.cell? ⟨w.heap.size, 1, none⟩ = some (.slice A gp.length c) ∧ w'.cell? ⟨g, off + i, none⟩ = some (.slice R1 gp.length rc1)) (by kernel_rfl) ⟨z0, z1, z2⟩ (fun hH => ?_)
            refine wpAnyH_take (i := 0) (oi := { dst := _, op := _, type := _, pos := _, after := _, guard := _ }) (v := ?_) rfl (by kernel_rfl) (by kernel_rfl) (by kernel_rfl) (fun _ _ _ h => h) (Or.inl ⟨by rfl, ?_⟩) hH ?_
            rotate_left
            · intro w9 hSw
              try dsimp only at hSw
              obtain ⟨s0, s1, s2⟩ := hSw
              go_simp
              try with_reducible rfl
            try simp only [Act.put, List.setIfInBounds_toArray, List.set_cons_zero, List.set_cons_succ]
            refine wpAnyH_take (i := 1) (oi := { dst := _, op := _, type := _, pos := _, after := _, guard := _ }) (v := ?_) rfl (by kernel_rfl) (by kernel_rfl) (by kernel_rfl) (fun _ _ _ h => h) (Or.inl ⟨by rfl, ?_⟩) hH ?_
            rotate_left
            · intro w9 hSw
              try dsimp only at hSw
              obtain ⟨s0, s1, s2⟩ := hSw
              go_simp
              try with_reducible rfl
            try simp only [Act.put, List.setIfInBounds_toArray, List.set_cons_zero, List.set_cons_succ]
            refine wpAnyH_take (i := 2) (oi := { dst := _, op := _, type := _, pos := _, after := _, guard := _ }) (v := ?_) rfl (by kernel_rfl) (by kernel_rfl) (by kernel_rfl) (fun _ _ _ h => h) (Or.inl ⟨by rfl, ?_⟩) hH ?_
            rotate_left
            · intro w9 hSw
              try dsimp only at hSw
              obtain ⟨s0, s1, s2⟩ := hSw
              go_simp
              try with_reducible rfl
            try simp only [Act.put, List.setIfInBounds_toArray, List.set_cons_zero, List.set_cons_succ]
            refine wpAnyH_take (i := 3) (oi := { dst := _, op := _, type := _, pos := _, after := _, guard := _ }) (v := ?_) rfl (by kernel_rfl) (by kernel_rfl) (by kernel_rfl) (fun _ _ _ h => h) (Or.inl ⟨by rfl, ?_⟩) hH ?_
            rotate_left
            · intro w9 hSw
              try dsimp only at hSw
              obtain ⟨s0, s1, s2⟩ := hSw
              go_simp
              try with_reducible rfl
            try simp only [Act.put, List.setIfInBounds_toArray, List.set_cons_zero, List.set_cons_succ]
            refine wpAnyH_take (i := 4) (oi := { dst := _, op := _, type := _, pos := _, after := _, guard := _ }) (v := ?_) rfl (by kernel_rfl) (by kernel_rfl) (by kernel_rfl) (fun _ _ _ h => h) (Or.inl ⟨by rfl, ?_⟩) hH ?_
            rotate_left
            · intro w9 hSw
              try dsimp only at hSw
              obtain ⟨s0, s1, s2⟩ := hSw
              go_simp
              try with_reducible rfl
            try simp only [Act.put, List.setIfInBounds_toArray, List.set_cons_zero, List.set_cons_succ]
            refine wpAnyH_take (i := 5) (oi := { dst := _, op := _, type := _, pos := _, after := _, guard := _ }) (v := ?_) rfl (by kernel_rfl) (by kernel_rfl) (by kernel_rfl) (fun _ _ _ h => h) (Or.inl ⟨by rfl, ?_⟩) hH ?_
            rotate_left
            · intro w9 hSw
              try dsimp only at hSw
              obtain ⟨s0, s1, s2⟩ := hSw
              go_simp
              try with_reducible rfl
            try simp only [Act.put, List.setIfInBounds_toArray, List.set_cons_zero, List.set_cons_succ]
            refine wpAnyH_ready (rs := [6]) (by kernel_rfl) (by simp) ?_
            refine AllReadyH.cons rfl (fun K hK => ?_) AllReadyH.nil
            go_simp
            go_at_call 106
            refine (spec_l17Enabled _ _ _ _ cur _ wr.drew ((h0.now hB).now hBd) (hr.now hBd) hcl.out (okMarking_pos hcok.out)).mono ?_
            rintro e5 w5 ⟨rfl, hB5⟩
            have z0a := cell_keep (w := wr.drew) z0 hB5
            have z1a := cell_keep (w := wr.drew) z1 hB5
            have z2a := cell_keep (w := wr.drew) z2 hB5
            refine hK.out _ _ ⟨z0a, z1a, z2a⟩ (fun hH => ?_)
            clear hK K
            try simp only [Act.put, List.setIfInBounds_toArray, List.set_cons_zero, List.set_cons_succ]
            refine wpAnyH_take (i := 7) (oi := { dst := _, op := _, type := _, pos := _, after := _, guard := _ }) (v := ?_) rfl (by kernel_rfl) (by kernel_rfl) (by kernel_rfl) (fun _ _ _ h => h) (Or.inl ⟨by rfl, ?_⟩) hH ?_
            rotate_left
            · intro w9 hSw
              try dsimp only at hSw
              obtain ⟨s0, s1, s2⟩ := hSw
              go_simp
              try with_reducible rfl
            try simp only [Act.put, List.setIfInBounds_toArray, List.set_cons_zero, List.set_cons_succ]
            refine wpAnyH_done (by kernel_rfl) ?_ _
            have hBt5 := hBd.trans hB5
            have hbr5 := hbr.now hBt5
            obtain ⟨y0, y1⟩ := hbr5.c2
            have l5 := hbr5.lt
            have hs5 := hBt5.size
            clear z0 z1 z2 hH
            cases hen : enB gp cur (e : Int)
            · have hS' : Hid (reEv gp (e + 1) cur F = some G) := by show _ = _; rw [hSH.out, hen]; rfl
              clear hen
              go_wp2
              exact ⟨⟨e + 1, G, _, _, hlt2, by go_num, rfl, hS', hM.now hBt5, hB.trans (hBt5.mono hs)⟩, by simp [intOf]; omega⟩
            · have hS2 : Hid (reEv gp (e + 1) cur F = reFire gp cur e G) := by show _ = _; rw [hSH.out, hen]; rfl
              clear hen
              have hBd6 : Below w5.heap.size w5 w5.drew := Below.drew (Below.refl _ w5)
              have u0 : w5.drew.cell? ⟨w.heap.size, 0, none⟩ = some (.int .i64 n) := y0
              have u1 : w5.drew.cell? ⟨w.heap.size, 1, none⟩ = some (.slice A gp.length c) := y1
              have u2 : w5.drew.cell? ⟨g, off + i, none⟩ = some (.slice R1 gp.length rc1) := z2a
              have hfl := Lib.hid ((fireM_len gp cur (e : Int) hcl.out).trans hcl.out)
              go_wp2
              refine wp_region_held_drew (S := fun w' => w'.cell? ⟨w.heap.size, 0, none⟩ = some (.int .i64 n) ∧ w'.cell? ⟨w.heap.size, 1, none⟩ = some (.slice A gp.length c) ∧ w'.cell? ⟨g, off + i, none⟩ = some (.slice R1 gp.length rc1)) (by kernel_rfl) ⟨u0, u1, u2⟩ (fun hH => ?_)
              refine wpAnyH_take (i := 0) (oi := { dst := _, op := _, type := _, pos := _, after := _, guard := _ }) (v := ?_) rfl (by kernel_rfl) (by kernel_rfl) (by kernel_rfl) (fun _ _ _ h => h) (Or.inl ⟨by rfl, ?_⟩) hH ?_
              rotate_left
              · intro w9 hSw
                try dsimp only at hSw
                obtain ⟨s0, s1, s2⟩ := hSw
                go_simp
                try with_reducible rfl
              try simp only [Act.put, List.setIfInBounds_toArray, List.set_cons_zero, List.set_cons_succ]
              refine wpAnyH_take (i := 1) (oi := { dst := _, op := _, type := _, pos := _, after := _, guard := _ }) (v := ?_) rfl (by kernel_rfl) (by kernel_rfl) (by kernel_rfl) (fun _ _ _ h => h) (Or.inl ⟨by rfl, ?_⟩) hH ?_
              rotate_left
              · intro w9 hSw
                try dsimp only at hSw
                obtain ⟨s0, s1, s2⟩ := hSw
                go_simp
                try with_reducible rfl
              try simp only [Act.put, List.setIfInBounds_toArray, List.set_cons_zero, List.set_cons_succ]
              refine wpAnyH_take (i := 2) (oi := { dst := _, op := _, type := _, pos := _, after := _, guard := _ }) (v := ?_) rfl (by kernel_rfl) (by kernel_rfl) (by kernel_rfl) (fun _ _ _ h => h) (Or.inl ⟨by rfl, ?_⟩) hH ?_
              rotate_left
              · intro w9 hSw
                try dsimp only at hSw
                obtain ⟨s0, s1, s2⟩ := hSw
                go_simp
                try with_reducible rfl
              try simp only [Act.put, List.setIfInBounds_toArray, List.set_cons_zero, List.set_cons_succ]
              refine wpAnyH_take (i := 3) (oi := { dst := _, op := _, type := _, pos := _, after := _, guard := _ }) (v := ?_) rfl (by kernel_rfl) (by kernel_rfl) (by kernel_rfl) (fun _ _ _ h => h) (Or.inl ⟨by rfl, ?_⟩) hH ?_
              rotate_left
              · intro w9 hSw
                try dsimp only at hSw
                obtain ⟨s0, s1, s2⟩ := hSw
                go_simp
                try with_reducible rfl
              try simp only [Act.put, List.setIfInBounds_toArray, List.set_cons_zero, List.set_cons_succ]
              refine wpAnyH_take (i := 4) (oi := { dst := _, op := _, type := _, pos := _, after := _, guard := _ }) (v := ?_) rfl (by kernel_rfl) (by kernel_rfl) (by kernel_rfl) (fun _ _ _ h => h) (Or.inl ⟨by rfl, ?_⟩) hH ?_
              rotate_left
              · intro w9 hSw
                try dsimp only at hSw
                obtain ⟨s0, s1, s2⟩ := hSw
                go_simp
                try with_reducible rfl
              try simp only [Act.put, List.setIfInBounds_toArray, List.set_cons_zero, List.set_cons_succ]
              refine wpAnyH_take (i := 5) (oi := { dst := _, op := _, type := _, pos := _, after := _, guard := _ }) (v := ?_) rfl (by kernel_rfl) (by kernel_rfl) (by kernel_rfl) (fun _ _ _ h => h) (Or.inl ⟨by rfl, ?_⟩) hH ?_
              rotate_left
              · intro w9 hSw
                try dsimp only at hSw
                obtain ⟨s0, s1, s2⟩ := hSw
                go_simp
                try with_reducible rfl
              try simp only [Act.put, List.setIfInBounds_toArray, List.set_cons_zero, List.set_cons_succ]
              refine wpAnyH_ready (rs := [6]) (by kernel_rfl) (by simp) ?_
              refine AllReadyH.cons rfl (fun K hK => ?_) AllReadyH.nil
              go_simp
              go_at_call 107
              refine (spec_l17Fire _ n _ _ cur _ w5.drew (((h0.now hB).now hBt5).now hBd6) ((hr.now hBt5).now hBd6) hg' hcok hgl).mono ?_
              rintro e6 w6 ⟨mx, rfl, hMx, hB6⟩
              obtain ⟨RX, rcx, rfl⟩ := own_shape_n hMx hfl.out
              have u0a := cell_keep (w := w5.drew) u0 hB6
              have u1a := cell_keep (w := w5.drew) u1 hB6
              have u2a := cell_keep (w := w5.drew) u2 hB6
              refine hK.out _ _ ⟨u0a, u1a, u2a⟩ (fun hH => ?_)
              clear hK K
              try simp only [Act.put, List.setIfInBounds_toArray, List.set_cons_zero, List.set_cons_succ]
              refine wpAnyH_take (i := 7) (oi := { dst := _, op := _, type := _, pos := _, after := _, guard := _ }) (v := ?_) rfl (by kernel_rfl) (by kernel_rfl) (by kernel_rfl) (fun _ _ _ h => h) (Or.inl ⟨by rfl, ?_⟩) hH ?_
              rotate_left
              · intro w9 hSw
                try dsimp only at hSw
                obtain ⟨s0, s1, s2⟩ := hSw
                go_simp
                try with_reducible rfl
              try simp only [Act.put, List.setIfInBounds_toArray, List.set_cons_zero, List.set_cons_succ]
              refine wpAnyH_take (i := 8) (oi := { dst := _, op := _, type := _, pos := _, after := _, guard := _ }) (v := ?_) rfl (by kernel_rfl) (by kernel_rfl) (by kernel_rfl) (fun _ _ _ h => h) (Or.inl ⟨by rfl, ?_⟩) hH ?_
              rotate_left
              · intro w9 hSw
                try dsimp only at hSw
                obtain ⟨s0, s1, s2⟩ := hSw
                go_simp
                try with_reducible rfl
              try simp only [Act.put, List.setIfInBounds_toArray, List.set_cons_zero, List.set_cons_succ]
              refine wpAnyH_take (i := 9) (oi := { dst := _, op := _, type := _, pos := _, after := _, guard := _ }) (v := ?_) rfl (by kernel_rfl) (by kernel_rfl) (by kernel_rfl) (fun _ _ _ h => h) (Or.inl ⟨by rfl, ?_⟩) hH ?_
              rotate_left
              · intro w9 hSw
                try dsimp only at hSw
                obtain ⟨s0, s1, s2⟩ := hSw
                go_simp
                try with_reducible rfl
              try simp only [Act.put, List.setIfInBounds_toArray, List.set_cons_zero, List.set_cons_succ]
              refine wpAnyH_take (i := 10) (oi := { dst := _, op := _, type := _, pos := _, after := _, guard := _ }) (v := ?_) rfl (by kernel_rfl) (by kernel_rfl) (by kernel_rfl) (fun _ _ _ h => h) (Or.inl ⟨by rfl, ?_⟩) hH ?_
              rotate_left
              · intro w9 hSw
                try dsimp only at hSw
                obtain ⟨s0, s1, s2⟩ := hSw
                go_simp
                try with_reducible rfl
              try simp only [Act.put, List.setIfInBounds_toArray, List.set_cons_zero, List.set_cons_succ]
              refine wpAnyH_take (i := 11) (oi := { dst := _, op := _, type := _, pos := _, after := _, guard := _ }) (v := ?_) rfl (by kernel_rfl) (by kernel_rfl) (by kernel_rfl) (fun _ _ _ h => h) (Or.inl ⟨by rfl, ?_⟩) hH ?_
              rotate_left
              · intro w9 hSw
                try dsimp only at hSw
                obtain ⟨s0, s1, s2⟩ := hSw
                go_simp
                try with_reducible rfl
              try simp only [Act.put, List.setIfInBounds_toArray, List.set_cons_zero, List.set_cons_succ]
              refine wpAnyH_done (by kernel_rfl) ?_ _
              have hBt6 := hBd6.trans hB6
              have hB6t := hBt5.trans (hBt6.mono hs5)
              have hs6 := hBt6.size
              clear u0 u1 u2 hH z0a z1a z2a y0 y1
              have hbad : Hid (reFire gp cur e G = none → reachF n gp = ([], 3)) := by
                intro h
                have q1 := hnn.out (e + 1) hlt2 (hS2.out.trans h)
                rw [q1] at hgo
                exact reach_none hg'.out hgo.out.symm
              cases hmk : okMarking gp (fireM gp cur (e : Int))
              · have hE := Lib.hid (hbad.out (by unfold reFire; rw [if_pos hmk]))
                clear hmk hbad
                go_wp2
                go_ret2
                exact RetMI.of hE.out ⟨_, rfl, OwnM.nil, hW.trans ((hB.trans (hB6t.mono hs)).mono hs1)⟩
              · go_wp2_with fail
                refine (spec_l17Find _ G _ (fireM gp cur (e : Int)) w6 (hM.now hB6t).lst hMx.lst).mono ?_
                rintro e7 w7 ⟨rfl, hB7⟩
                have hB7t := hB6t.trans (hB7.mono hB6t.size)
                have hs7 := hB7t.size
                have hbr7 := hbr.now hB7t
                cases hcn : G.contains (fireM gp cur (e : Int))
                · by_cases h300 : G.length = 300
                  · have hE := Lib.hid (hbad.out (by unfold reFire; rw [if_neg (by rw [hmk]; simp), if_neg (by rw [hcn]; simp), if_pos h300]))
                    have q3 : ((G.length : Int) == 300) = true := by simp; omega
                    clear hmk hbad hcn h300
                    go_wp2
                    go_ret2
                    exact RetMI.of hE.out ⟨_, rfl, OwnM.nil, hW.trans ((hB.trans (hB7t.mono hs)).mono hs1)⟩
                  · have hS3 : Hid (reEv gp (e + 1) cur F = some (G ++ [fireM gp cur (e : Int)])) := by show _ = _; rw [hS2.out]; unfold reFire; rw [if_neg (by rw [hmk]; simp), if_neg (by rw [hcn]; simp), if_neg h300]
                    have q3 : ((G.length : Int) == 300) = false := by simp; omega
                    clear hmk hbad hcn h300
                    obtain ⟨rs, hl, hO, hR, hD⟩ := hM
                    have hrlt : Hid (∀ i (hi : i < rs.length) q, rs[i].val.ownBlock = some q → q < w5.heap.size) := fun i hi q hq => by have := ((hR i hi (by omega)).lt q hq).2; omega
                    have hR' := Lib.hid hR
                    have hD' := Lib.hid hD
                    have hl' := Lib.hid hl
                    clear hR hD hl
                    have hMx7 := hMx.now hB7
                    have hlen : rs.length + [(⟨RX, gp.length, rcx⟩ : Ref)].length ≤ 1099511627776 := by rw [hl'.out]; simp; omega
                    have hOn := hO.now hB7t
                    have hLL : Hid ((rs ++ [(⟨RX, gp.length, rcx⟩ : Ref)]).length = G.length + 1) := by show _ = _; simp [hl'.out]
                    have hLG : Hid ((G ++ [fireM gp cur (e : Int)]).length = G.length + 1) := by show _ = _; simp
                    have hs5' : w1.heap.size ≤ w5.heap.size := by omega
                    have hw17 : w1.heap.size ≤ w7.heap.size := by omega
                    go_wp2_with (at_builtin; refine wpList_append_lst rfl _ _ 28 rfl Ref.cells 1 Ref.cells_one (by omega) w1.heap.size 32 _ 24 Try.underlying28 info_ref rfl _ _ rfl (hOn.alloc _) _ _ _ _ [(⟨RX, gp.length, rcx⟩ : Ref)] rfl (lst_new1 _ _ Ref.cells_len _ _ _ _ rfl _ (by simp)) hlen (by omega) (Nat.le_trans hw17 (by simp <;> omega)) ?_; intro v' w8 hO1 hG1 hD1; obtain ⟨V1, cv1, rfl⟩ := own_shape_n hO1 hLL.out)
                    have hMn : OwnM w8 w1.heap.size (.slice V1 (G.length + 1) cv1) (G ++ [fireM gp cur (e : Int)]) := OwnM.push2 hl'.out (hOn.alloc _) (fun i h1 h2 => ((hR'.out i h1 h2).now hB7t).alloc _) hD'.out ⟨RX, gp.length, rcx⟩ (fireM gp cur (e : Int)) w5.heap.size (hMx7.alloc _) hs5' hrlt.out _ hG1 hO1
                    have hBn := below_app ((hB.trans (hB7t.mono hs)).alloc hw17 _) (Nat.le_trans hw17 (by simp)) hG1 (hOn.alloc _) (Nat.le_refl _)
                    exact ⟨⟨e + 1, _, V1, cv1, hlt2, by go_num, by rw [hLG.out], hS3, by rw [hLG.out]; exact hMn, hBn⟩, by simp [intOf]; omega⟩
                · have hS3 : Hid (reEv gp (e + 1) cur F = some G) := by show _ = _; rw [hS2.out]; unfold reFire; rw [if_neg (by rw [hmk]; simp), if_pos hcn]
                  clear hmk hbad hcn
                  go_wp2
                  exact ⟨⟨e + 1, G, _, _, hlt2, by go_num, rfl, hS3, hM.now hB7t, hB.trans (hB7t.mono hs)⟩, by simp [intOf]; omega⟩
          · obtain rfl : e = n := by omega
            have hRA' : Hid (reAll gp e (301 - (i + 1)) (i + 1) G = reAll gp e 301 0 [firstF gp]) := by
              show _ = _
              rw [← hgo.out, hEv.out]
              rfl
            have hbr := hb0.now hB
            obtain ⟨k0, k1⟩ := hbr.c2
            have l0 := hbr.lt
            go_wp2
            exact ⟨⟨i + 1, G, _, _, by go_num, rfl, by omega, hGkH, hRA', hM, hB⟩, by simp [intOf]; omega⟩
      · have hE : Hid (reachF n gp = (F, 0)) := reach_some hg'.out (by rw [← hRA.out]; exact reAll_end hlt)
        go_wp2
        go_ret2
        exact RetMI.of hE.out ⟨_, rfl, hM.rebase hs1, hW.trans (hB.mono hs1)⟩
set_option maxHeartbeats 8000000 in
set_option maxRecDepth 100000 in
theorem impl_ReachableMarkings (v : Value) (ge : Int) (gp : List Place) (w : World) (h0 : Lst Place.cells 4 w w.heap.size v gp) :
    Calls Try.prog 17 #[.agg #[.int .i64 ge, v]] w (RetMI w (reachF ge gp).1 (reachF ge gp).2) := by
  obtain ⟨A, c, rfl⟩ := h0.shape
  go_enter Try.func17, Try.ntmps17
  go_wp2_with fail
  have hW : Below w.heap.size w (w.alloc (.cells #[.int .i64 ge, .slice A gp.length c] 26)) := (Below.refl _ _).alloc (Nat.le_refl _) _; have hb0 : Blk (w.alloc (.cells #[.int .i64 ge, .slice A gp.length c] 26)) w.heap.size 26 #[.int .i64 ge, .slice A gp.length c] := Blk.new _ _ _; replace h0 := h0.now hW; generalize (w.alloc (.cells #[.int .i64 ge, .slice A gp.length c] 26)) = W at *
  refine (impl_IsEventGraph _ _ _ _ h0).mono ?_
  rintro e w1 ⟨rfl, hB⟩
  replace hW := hW.trans (hB.mono hW.size); replace h0 := h0.now hB; replace hb0 := hb0.now hB
  obtain ⟨k0, k1⟩ := hb0.c2
  clear hB
  cases hg : okGraph ge gp
  · have hE : Hid (reachF ge gp = ([], 1)) := by show _ = _; simp [reachF, hg]
    clear hg
    go_wp2
    go_ret2
    exact RetMI.of hE.out ⟨_, rfl, OwnM.nil, hW⟩
  · obtain ⟨hge1, hge2⟩ := okGraph_ev hg
    have hgl := okGraph_len hg
    obtain ⟨n, rfl⟩ := Int.eq_ofNat_of_zero_le (show 0 ≤ ge by omega)
    have hg' := Lib.hid hg
    clear hg
    have hs1 := hW.size
    go_wp2_with fail
    refine (impl_firstMarking _ _ _ _ h0 hgl).mono ?_
    rintro e w2 ⟨x, rfl, hO, hB⟩
    obtain ⟨R, rc, rfl⟩ := own_shape_n hO (firstF_len gp)
    have hZ : Below w2.heap.size w2 (w2.alloc (.cells #[.slice R gp.length rc] 32)) := (Below.refl _ _).alloc (Nat.le_refl _) _
    have hM0 : OwnM (w2.alloc (.cells #[.slice R gp.length rc] 32)) w1.heap.size (.slice (some ⟨w2.heap.size, 0, none⟩) 1 1) [firstF gp] :=
      ⟨[⟨R, gp.length, rc⟩], rfl, own_new1 Ref.cells 1 Ref.cells_len w2 _ _ hB.size ⟨R, gp.length, rc⟩ (by omega), fun i q1 q2 => by
        obtain rfl : i = 0 := by simp at q1; omega
        exact hO.now hZ, fun i j q1 q2 q3 => by simp at q1 q2; omega⟩
    have hB0 := hB.trans (hZ.mono hB.size)
    have hRk0 := Lib.hid (ReOk.start hg'.out)
    clear hO hB hZ
    go_wp2
    go_loopw [4, 5, 7, 8, 9] (fun ov iv _ _ _ wr => ∃ (i : Nat) (F : List (List Int)) (Y : Option Addr) (cy : Nat), iv = .int .i64 i ∧ ov = .slice Y F.length cy ∧ i ≤ F.length ∧ Hid (ReOk gp F) ∧ Hid (reAll gp n (301 - i) i F = reAll gp n 301 0 [firstF gp]) ∧ OwnM wr w1.heap.size (.slice Y F.length cy) F ∧ Below w1.heap.size w1 wr) (fun _ iv _ _ _ _ => 301 - (intOf iv).toNat)
    case atStart => exact ⟨0, [firstF gp], _, _, rfl, rfl, Nat.zero_le _, hRk0, rfl, hM0, hB0⟩
    case round =>
      clear hM0 hB0 hRk0
      obtain ⟨i, F, Y, cy, rfl, rfl, hi, hRk, hRA, hM, hB⟩ := hrel
      obtain ⟨wo, hwo⟩ : ∃ x, x = wr := ⟨_, rfl⟩
      subst hwo
      have hF3 := hRk.out.len
      by_cases hlt : i < F.length
      · skip
        have hgo := Lib.hid ((hRA.out.symm.trans (reAll_go hRk.out hlt)).symm)
        rw [reEv_list] at hgo
        have hev0 := Lib.hid (fun k G (hk : k ≤ (enL gp F[i] n).length) (h : reList gp F[i] ((enL gp F[i] n).take k) F = some G) => hRk.out.lst F[i] (enL gp F[i] n) k G hk h)
        have hcok := Lib.hid (hRk.out.ok _ (List.getElem_mem hlt))
        have hnn := Lib.hid (fun k (h : reList gp F[i] ((enL gp F[i] n).take k) F = none) => reList_none gp F[i] F (enL gp F[i] n) k h)
        have hget := Lib.hid (fun (G : List (List Int)) r (h : G = F ++ r) hg2 => append_get h i hlt hg2)
        have hst0 : Hid (reList gp F[i] ((enL gp F[i] n).take 0) F = some F) := rfl
        obtain ⟨g, off, cu, r1, hu, hgb, r0, hr⟩ := hM.lst.row i hlt
        cases hu
        obtain ⟨R1, rc1, hv⟩ := hr.shape
        rw [hv] at hr r0
        have hcl := Lib.hid (okMarking_len hcok.out)
        have hclen : F[i].length = gp.length := hcl.out
        rw [hclen] at hr r0
        clear hv hclen
        generalize F[i] = cur at *
        have hbr := hb0.now hB
        have hs := hB.size
        obtain ⟨k0, k1⟩ := hbr.c2
        have l0 := hbr.lt
        have hBd : Below wo.heap.size wo wo.drew := Below.drew (Below.refl _ wo)
        have z0 : wo.drew.cell? ⟨w.heap.size, 0, none⟩ = some (.int .i64 n) := k0
        have z1 : wo.drew.cell? ⟨w.heap.size, 1, none⟩ = some (.slice A gp.length c) := k1
        have z2 : wo.drew.cell? ⟨g, off + i, none⟩ = some (.slice R1 gp.length rc1) := r0
        have j1 : (0 : Int) ≤ (i : Int) := by omega
        have j2 : (i : Int) < (F.length : Int) := by omega
        go_wp2
        refine wp_region_held_drew (S := fun w' => w'.cell? ⟨w.heap.size, 0, none⟩ = some (.int .i64 n) ∧ w'.cell? ⟨w.heap.size, 1, none⟩ = some (.slice A gp.length c) ∧ w'.cell? ⟨g, off + i, none⟩ = some (.slice R1 gp.length rc1)) (by kernel_rfl) ⟨z0, z1, z2⟩ (fun hH => ?_)
        refine wpAnyH_take (i := 0) (oi := { dst := _, op := _, type := _, pos := _, after := _, guard := _ }) (v := ?_) rfl (by kernel_rfl) (by kernel_rfl) (by kernel_rfl) (fun _ _ _ h => h) (Or.inl ⟨by rfl, ?_⟩) hH ?_
        rotate_left
        · intro w9 hSw
          try dsimp only at hSw
          obtain ⟨s0, s1, s2⟩ := hSw
          go_simp
          try with_reducible rfl
        try simp only [Act.put, List.setIfInBounds_toArray, List.set_cons_zero, List.set_cons_succ]
        refine wpAnyH_take (i := 1) (oi := { dst := _, op := _, type := _, pos := _, after := _, guard := _ }) (v := ?_) rfl (by kernel_rfl) (by kernel_rfl) (by kernel_rfl) (fun _ _ _ h => h) (Or.inl ⟨by rfl, ?_⟩) hH ?_
        rotate_left
        · intro w9 hSw
          try dsimp only at hSw
          obtain ⟨s0, s1, s2⟩ := hSw
          go_simp
          try with_reducible rfl
        try simp only [Act.put, List.setIfInBounds_toArray, List.set_cons_zero, List.set_cons_succ]
        refine wpAnyH_take (i := 2) (oi := { dst := _, op := _, type := _, pos := _, after := _, guard := _ }) (v := ?_) rfl (by kernel_rfl) (by kernel_rfl) (by kernel_rfl) (fun _ _ _ h => h) (Or.inl ⟨by rfl, ?_⟩) hH ?_
        rotate_left
        · intro w9 hSw
          try dsimp only at hSw
          obtain ⟨s0, s1, s2⟩ := hSw
          go_simp
          try with_reducible rfl
        try simp only [Act.put, List.setIfInBounds_toArray, List.set_cons_zero, List.set_cons_succ]
        refine wpAnyH_take (i := 3) (oi := { dst := _, op := _, type := _, pos := _, after := _, guard := _ }) (v := ?_) rfl (by kernel_rfl) (by kernel_rfl) (by kernel_rfl) (fun _ _ _ h => h) (Or.inl ⟨by rfl, ?_⟩) hH ?_
        rotate_left
        · intro w9 hSw
          try dsimp only at hSw
          obtain ⟨s0, s1, s2⟩ := hSw
          go_simp
          try with_reducible rfl
        try simp only [Act.put, List.setIfInBounds_toArray, List.set_cons_zero, List.set_cons_succ]
        refine wpAnyH_take (i := 4) (oi := { dst := _, op := _, type := _, pos := _, after := _, guard := _ }) (v := ?_) rfl (by kernel_rfl) (by kernel_rfl) (by kernel_rfl) (fun _ _ _ h => h) (Or.inl ⟨by rfl, ?_⟩) hH ?_
        rotate_left
        · intro w9 hSw
          try dsimp only at hSw
          obtain ⟨s0, s1, s2⟩ := hSw
          go_simp
          try with_reducible rfl
        try simp only [Act.put, List.setIfInBounds_toArray, List.set_cons_zero, List.set_cons_succ]
        refine wpAnyH_take (i := 7) (oi := { dst := _, op := _, type := _, pos := _, after := _, guard := _ }) (v := ?_) rfl (by kernel_rfl) (by kernel_rfl) (by kernel_rfl) (fun _ _ _ h => h) (Or.inl ⟨by rfl, ?_⟩) hH ?_
        rotate_left
        · intro w9 hSw
          try dsimp only at hSw
          obtain ⟨s0, s1, s2⟩ := hSw
          go_simp
          try with_reducible rfl
        try simp only [Act.put, List.setIfInBounds_toArray, List.set_cons_zero, List.set_cons_succ]
        refine wpAnyH_ready (rs := [5]) (by kernel_rfl) (by simp) ?_
        refine AllReadyH.cons rfl (fun K hK => ?_) AllReadyH.nil
        go_simp
        go_at_call 99
        refine (impl_enabledIn _ n _ _ cur wo.drew ((h0.now hB).now hBd) (hr.now hBd) hcl.out (by omega)).mono ?_
        rintro e5 w5 ⟨ex, rfl, hEn, hB5⟩
        obtain ⟨EX, ec, rfl⟩ := hEn.shape
        have z0a := cell_keep (w := wo.drew) z0 hB5
        have z1a := cell_keep (w := wo.drew) z1 hB5
        have z2a := cell_keep (w := wo.drew) z2 hB5
        refine hK.out _ _ ⟨z0a, z1a, z2a⟩ (fun hH => ?_)
        clear hK K
        try simp only [Act.put, List.setIfInBounds_toArray, List.set_cons_zero, List.set_cons_succ]
        refine wpAnyH_take (i := 6) (oi := { dst := _, op := _, type := _, pos := _, after := _, guard := _ }) (v := ?_) rfl (by kernel_rfl) (by kernel_rfl) (by kernel_rfl) (fun _ _ _ h => h) (Or.inl ⟨by rfl, ?_⟩) hH ?_
        rotate_left
        · intro w9 hSw
          try dsimp only at hSw
          obtain ⟨s0, s1, s2⟩ := hSw
          go_simp
          try with_reducible rfl
        try simp only [Act.put, List.setIfInBounds_toArray, List.set_cons_zero, List.set_cons_succ]
        refine wpAnyH_done (by kernel_rfl) ?_ _
        have hBt5 := hBd.trans hB5
        replace hEn := hEn.rebase (show w1.heap.size ≤ wo.drew.heap.size from hs)
        have hM5 := hM.now hBt5
        have hB5t := hB.trans (hBt5.mono hs)
        clear z0 z1 z2 hH z0a z1a z2a k0 k1 l0 r0 hr hBd
        have hELn := enL_len gp cur n
        have henm := Lib.hid (enL_mem gp cur n)
        have hsn := Lib.hid (fun j (h : j < (enL gp cur n).length) => take_succ_get (enL gp cur n) j h)
        have hrs := Lib.hid (fun l e => reList_snoc gp cur l F e)
        generalize enL gp cur n = EL at *
        go_wp2
        go_loopw [4, 7, 8, 9, 29] (fun ov _ _ _ jv wr => ∃ (j : Nat) (G : List (List Int)) (Y : Option Addr) (cy : Nat), j ≤ EL.length ∧ jv = .int .i64 j ∧ ov = .slice Y G.length cy ∧ Hid (reList gp cur (EL.take j) F = some G) ∧ OwnM wr w1.heap.size (.slice Y G.length cy) G ∧ Own intCell 1 2 wr w1.heap.size (.slice EX EL.length ec) EL ∧ Below w1.heap.size w1 wr) (fun _ _ _ _ jv _ => EL.length - (intOf jv).toNat)
        case atStart => exact ⟨0, F, _, _, Nat.zero_le _, rfl, rfl, hst0, hM5, hEn, hB5t⟩
        case round =>
          clear hM hB hM5 hEn hB5t hBt5 hbr hs
          obtain ⟨j, G, Y, cy, hj, rfl, rfl, hEv, hM, hEn, hB⟩ := hrel
          have hs := hB.size
          obtain ⟨hGk, r, hGr⟩ := hev0.out j G hj hEv.out
          have hG3 := hGk.len
          have hGl : F.length ≤ G.length := by rw [hGr]; simp
          have hGi : i < G.length := by omega
          have hcur := Lib.hid (hget.out G r hGr hGi)
          have hGkH := Lib.hid hGk
          clear hGr hGk
          by_cases hlt2 : j < EL.length
          · obtain ⟨b6, o6, hE6, -, d0⟩ := ints_at hEn.lst j hlt2
            cases hE6
            have hm := (henm.out EL[j]).1 (List.getElem_mem hlt2)
            have hS := hrs.out (EL.take j) EL[j]
            rw [← hsn.out j hlt2, hEv.out, Option.bind_some] at hS
            obtain ⟨x, hx⟩ : ∃ x, EL[j] = x := ⟨_, rfl⟩
            rw [hx] at d0 hm hS
            clear hx
            obtain ⟨e, rfl⟩ := Int.eq_ofNat_of_zero_le hm.1.1
            rw [Int.toNat_natCast] at hS
            have hSH := Lib.hid hS
            have hfe : Hid (firedF n gp cur (e : Int) = if okMarking gp (fireM gp cur e) = false then ([], 3) else (fireM gp cur e, 0)) := by
              show _ = _
              have q1 : inB (e : Int) 0 ((n : Int) - 1) = true := by rw [inB_iff]; omega
              simp only [firedF, q1, hm.2, Bool.and_self, Bool.true_eq_false, if_false]
            clear hS hm
            obtain ⟨g, off, cu, r1, hu, hgb, r0, hr⟩ := hM.lst.row i hGi
            cases hu
            rw [hcur.out] at hr
            obtain ⟨R1, rc1, hv⟩ := hr.shape
            rw [hv] at hr r0
            have hclen : cur.length = gp.length := hcl.out
            rw [hclen] at hr r0
            clear hv hclen
            have hbr := hb0.now hB
            obtain ⟨k0, k1⟩ := hbr.c2
            have l0 := hbr.lt
            have hBd : Below wr.heap.size wr wr.drew := Below.drew (Below.refl _ wr)
            have z0 : wr.drew.cell? ⟨w.heap.size, 0, none⟩ = some (.int .i64 n) := k0
            have z1 : wr.drew.cell? ⟨w.heap.size, 1, none⟩ = some (.slice A gp.length c) := k1
            have z2 : wr.drew.cell? ⟨g, off + i, none⟩ = some (.slice R1 gp.length rc1) := r0
            have j1 : (0 : Int) ≤ (i : Int) := by omega
            have j2 : (i : Int) < (G.length : Int) := by omega
            have hfl := Lib.hid ((fireM_len gp cur (e : Int) hcl.out).trans hcl.out)
            have hbad : Hid (reFire gp cur e G = none → reachF n gp = ([], 3)) := by
              intro h
              have q1 := hnn.out (j + 1) (hSH.out.trans h)
              rw [q1] at hgo
              exact reach_none hg'.out hgo.out.symm
            cases hmk : okMarking gp (fireM gp cur (e : Int))
            · have hE := Lib.hid (hbad.out (by unfold reFire; rw [if_pos hmk]))
              have hfe2 : Hid (firedF n gp cur (e : Int) = ([], 3)) := by show _ = _; rw [hfe.out, hmk]; rfl
              clear hmk hbad
              go_wp2
              refine wp_region_held_drew (S := fun w' => w'.cell? ⟨w.heap.size, 0, none⟩ = some (.int .i64 n) ∧ w'.cell? ⟨w.heap.size, 1, none⟩ = some (.slice A gp.length c) ∧ w'.cell? ⟨g, off + i, none⟩ = some (.slice R1 gp.length rc1)) (by kernel_rfl) ⟨z0, z1, z2⟩ (fun hH => ?_)
              refine wpAnyH_take (i := 0) (oi := { dst := _, op := _, type := _, pos := _, after := _, guard := _ }) (v := ?_) rfl (by kernel_rfl) (by kernel_rfl) (by kernel_rfl) (fun _ _ _ h => h) (Or.inl ⟨by rfl, ?_⟩) hH ?_
              rotate_left
              · intro w9 hSw
                try dsimp only at hSw
                obtain ⟨s0, s1, s2⟩ := hSw
                go_simp
                try with_reducible rfl
              try simp only [Act.put, List.setIfInBounds_toArray, List.set_cons_zero, List.set_cons_succ]
              refine wpAnyH_take (i := 1) (oi := { dst := _, op := _, type := _, pos := _, after := _, guard := _ }) (v := ?_) rfl (by kernel_rfl) (by kernel_rfl) (by kernel_rfl) (fun _ _ _ h => h) (Or.inl ⟨by rfl, ?_⟩) hH ?_
              rotate_left
              · intro w9 hSw
                try dsimp only at hSw
                obtain ⟨s0, s1, s2⟩ := hSw
                go_simp
                try with_reducible rfl
              try simp only [Act.put, List.setIfInBounds_toArray, List.set_cons_zero, List.set_cons_succ]
              refine wpAnyH_take (i := 2) (oi := { dst := _, op := _, type := _, pos := _, after := _, guard := _ }) (v := ?_) rfl (by kernel_rfl) (by kernel_rfl) (by kernel_rfl) (fun _ _ _ h => h) (Or.inl ⟨by rfl, ?_⟩) hH ?_
              rotate_left
              · intro w9 hSw
                try dsimp only at hSw
                obtain ⟨s0, s1, s2⟩ := hSw
                go_simp
                try with_reducible rfl
              try simp only [Act.put, List.setIfInBounds_toArray, List.set_cons_zero, List.set_cons_succ]
              refine wpAnyH_take (i := 3) (oi := { dst := _, op := _, type := _, pos := _, after := _, guard := _ }) (v := ?_) rfl (by kernel_rfl) (by kernel_rfl) (by kernel_rfl) (fun _ _ _ h => h) (Or.inl ⟨by rfl, ?_⟩) hH ?_
              rotate_left
              · intro w9 hSw
                try dsimp only at hSw
                obtain ⟨s0, s1, s2⟩ := hSw
                go_simp
                try with_reducible rfl
              try simp only [Act.put, List.setIfInBounds_toArray, List.set_cons_zero, List.set_cons_succ]
              refine wpAnyH_take (i := 4) (oi := { dst := _, op := _, type := _, pos := _, after := _, guard := _ }) (v := ?_) rfl (by kernel_rfl) (by kernel_rfl) (by kernel_rfl) (fun _ _ _ h => h) (Or.inl ⟨by rfl, ?_⟩) hH ?_
              rotate_left
              · intro w9 hSw
                try dsimp only at hSw
                obtain ⟨s0, s1, s2⟩ := hSw
                go_simp
                try with_reducible rfl
              try simp only [Act.put, List.setIfInBounds_toArray, List.set_cons_zero, List.set_cons_succ]
              refine wpAnyH_take (i := 5) (oi := { dst := _, op := _, type := _, pos := _, after := _, guard := _ }) (v := ?_) rfl (by kernel_rfl) (by kernel_rfl) (by kernel_rfl) (fun _ _ _ h => h) (Or.inl ⟨by rfl, ?_⟩) hH ?_
              rotate_left
              · intro w9 hSw
                try dsimp only at hSw
                obtain ⟨s0, s1, s2⟩ := hSw
                go_simp
                try with_reducible rfl
              try simp only [Act.put, List.setIfInBounds_toArray, List.set_cons_zero, List.set_cons_succ]
              refine wpAnyH_ready (rs := [6, 10]) (by kernel_rfl) (by simp) ?_
              refine AllReadyH.cons rfl (fun K hK => ?_) (AllReadyH.cons rfl (fun K hK => ?_) AllReadyH.nil)
              · go_simp
                go_at_call 100
                refine (impl_fired _ n _ _ cur _ _ (((h0.now hB).now hBd)) ((hr.now hBd)) hcok (by omega) hgl).mono ?_
                rintro e6 w6 ⟨mx, rfl, hMx, hB6⟩
                rw [hfe2.out] at hMx ⊢
                obtain ⟨RX, rcx, rfl⟩ := own_shape_n hMx rfl
                have u0 := cell_keep (w := wr.drew) z0 hB6
                have u1 := cell_keep (w := wr.drew) z1 hB6
                have u2 := cell_keep (w := wr.drew) z2 hB6
                refine hK.out _ _ ⟨u0, u1, u2⟩ (fun hH => ?_)
                clear hK K
                try simp only [Act.put, List.setIfInBounds_toArray, List.set_cons_zero, List.set_cons_succ]
                refine wpAnyH_take (i := 7) (oi := { dst := _, op := _, type := _, pos := _, after := _, guard := _ }) (v := ?_) rfl (by kernel_rfl) (by kernel_rfl) (by kernel_rfl) (fun _ _ _ h => h) (Or.inl ⟨by rfl, ?_⟩) hH ?_
                rotate_left
                · intro w9 hSw
                  try dsimp only at hSw
                  obtain ⟨s0, s1, s2⟩ := hSw
                  go_simp
                  try with_reducible rfl
                try simp only [Act.put, List.setIfInBounds_toArray, List.set_cons_zero, List.set_cons_succ]
                refine wpAnyH_take (i := 8) (oi := { dst := _, op := _, type := _, pos := _, after := _, guard := _ }) (v := ?_) rfl (by kernel_rfl) (by kernel_rfl) (by kernel_rfl) (fun _ _ _ h => h) (Or.inl ⟨by rfl, ?_⟩) hH ?_
                rotate_left
                · intro w9 hSw
                  try dsimp only at hSw
                  obtain ⟨s0, s1, s2⟩ := hSw
                  go_simp
                  try with_reducible rfl
                try simp only [Act.put, List.setIfInBounds_toArray, List.set_cons_zero, List.set_cons_succ]
                refine wpAnyH_take (i := 9) (oi := { dst := _, op := _, type := _, pos := _, after := _, guard := _ }) (v := ?_) rfl (by kernel_rfl) (by kernel_rfl) (by kernel_rfl) (fun _ _ _ h => h) (Or.inl ⟨by rfl, ?_⟩) hH ?_
                rotate_left
                · intro w9 hSw
                  try dsimp only at hSw
                  obtain ⟨s0, s1, s2⟩ := hSw
                  go_simp
                  try with_reducible rfl
                try simp only [Act.put, List.setIfInBounds_toArray, List.set_cons_zero, List.set_cons_succ]
                have hZ : Below w6.heap.size w6 (w6.alloc (.cells #[.slice none 0 0] 32)) := (Below.refl _ _).alloc (Nat.le_refl _) _
                have hZ2 : Below w6.heap.size w6 (w6.alloc (.cells #[.slice RX 0 rcx] 32)) := (Below.refl _ _).alloc (Nat.le_refl _) _
                have v0 := cell_keep u0 hZ
                have v1 := cell_keep u1 hZ
                have v2 := cell_keep u2 hZ
                have x0 := cell_keep u0 hZ2
                have x1 := cell_keep u1 hZ2
                have x2 := cell_keep u2 hZ2
                refine wpAnyH_ready (rs := [10]) (by kernel_rfl) (by simp) ?_
                refine AllReadyH.cons rfl (fun K hK => ?_) AllReadyH.nil
                go_simp
                refine hK.out _ _ ⟨v0, v1, v2⟩ (fun hH => ?_)
                clear hK K
                try simp only [Act.put, List.setIfInBounds_toArray, List.set_cons_zero, List.set_cons_succ]
                refine wpAnyH_ready (rs := [11]) (by kernel_rfl) (by simp) ?_
                refine AllReadyH.cons rfl (fun K hK => ?_) AllReadyH.nil
                go_simp
                refine hK.out _ _ ⟨x0, x1, x2⟩ (fun hH => ?_)
                clear hK K
                try simp only [Act.put, List.setIfInBounds_toArray, List.set_cons_zero, List.set_cons_succ]
                refine wpAnyH_take (i := 12) (oi := { dst := _, op := _, type := _, pos := _, after := _, guard := _ }) (v := ?_) rfl (by kernel_rfl) (by kernel_rfl) (by kernel_rfl) (fun _ _ _ h => h) (Or.inl ⟨by rfl, ?_⟩) hH ?_
                rotate_left
                · intro w9 hSw
                  try dsimp only at hSw
                  obtain ⟨s0, s1, s2⟩ := hSw
                  go_simp
                  try with_reducible rfl
                try simp only [Act.put, List.setIfInBounds_toArray, List.set_cons_zero, List.set_cons_succ]
                refine wpAnyH_done (by kernel_rfl) ?_ _
                have hB9 : Below wr.heap.size wr (w6.alloc (.cells #[.slice RX 0 rcx] 32)) := hBd.trans (hB6.trans (hZ2.mono hB6.size))
                have hbx := Blk.newAt w6 (t := 32) (cs := #[.slice RX 0 rcx]) _ rfl
                replace hMx := hMx.now hZ2
                clear u0 u1 u2 v0 v1 v2 x0 x1 x2 hH hZ hZ2 hB6
                generalize w6.alloc (.cells #[.slice RX 0 rcx] 32) = w9 at *
                generalize w6.heap.size = nb at *
                go_wp2
                go_ret2
                exact RetMI.of hE.out ⟨_, rfl, OwnM.nil, hW.trans ((hB.trans (hB9.mono hs)).mono hs1)⟩
              · have hZ : Below wr.drew.heap.size wr.drew (wr.drew.alloc (.cells #[.slice none 0 0] 32)) := (Below.refl _ _).alloc (Nat.le_refl _) _
                have v0 := cell_keep (w := wr.drew) z0 hZ
                have v1 := cell_keep (w := wr.drew) z1 hZ
                have v2 := cell_keep (w := wr.drew) z2 hZ
                have hbz := Blk.newAt wr.drew (t := 32) (cs := #[.slice none 0 0]) wr.heap.size rfl
                have hszz : (wr.drew.alloc (.cells #[.slice none 0 0] 32)).heap.size = wr.heap.size + 1 := by simp
                go_simp
                refine hK.out _ _ ⟨v0, v1, v2⟩ (fun hH => ?_)
                clear hK K
                try simp only [Act.put, List.setIfInBounds_toArray, List.set_cons_zero, List.set_cons_succ]
                refine wpAnyH_ready (rs := [6]) (by kernel_rfl) (by simp) ?_
                refine AllReadyH.cons rfl (fun K hK => ?_) AllReadyH.nil
                go_simp
                go_at_call 100
                refine (impl_fired _ n _ _ cur _ _ (((h0.now hB).now hBd).now hZ) ((hr.now hBd).now hZ) hcok (by omega) hgl).mono ?_
                rintro e6 w6 ⟨mx, rfl, hMx, hB6⟩
                rw [hfe2.out] at hMx ⊢
                obtain ⟨RX, rcx, rfl⟩ := own_shape_n hMx rfl
                have u0 := cell_keep v0 hB6
                have u1 := cell_keep v1 hB6
                have u2 := cell_keep v2 hB6
                refine hK.out _ _ ⟨u0, u1, u2⟩ (fun hH => ?_)
                clear hK K
                try simp only [Act.put, List.setIfInBounds_toArray, List.set_cons_zero, List.set_cons_succ]
                refine wpAnyH_take (i := 7) (oi := { dst := _, op := _, type := _, pos := _, after := _, guard := _ }) (v := ?_) rfl (by kernel_rfl) (by kernel_rfl) (by kernel_rfl) (fun _ _ _ h => h) (Or.inl ⟨by rfl, ?_⟩) hH ?_
                rotate_left
                · intro w9 hSw
                  try dsimp only at hSw
                  obtain ⟨s0, s1, s2⟩ := hSw
                  go_simp
                  try with_reducible rfl
                try simp only [Act.put, List.setIfInBounds_toArray, List.set_cons_zero, List.set_cons_succ]
                refine wpAnyH_take (i := 8) (oi := { dst := _, op := _, type := _, pos := _, after := _, guard := _ }) (v := ?_) rfl (by kernel_rfl) (by kernel_rfl) (by kernel_rfl) (fun _ _ _ h => h) (Or.inl ⟨by rfl, ?_⟩) hH ?_
                rotate_left
                · intro w9 hSw
                  try dsimp only at hSw
                  obtain ⟨s0, s1, s2⟩ := hSw
                  go_simp
                  try with_reducible rfl
                try simp only [Act.put, List.setIfInBounds_toArray, List.set_cons_zero, List.set_cons_succ]
                refine wpAnyH_take (i := 9) (oi := { dst := _, op := _, type := _, pos := _, after := _, guard := _ }) (v := ?_) rfl (by kernel_rfl) (by kernel_rfl) (by kernel_rfl) (fun _ _ _ h => h) (Or.inl ⟨by rfl, ?_⟩) hH ?_
                rotate_left
                · intro w9 hSw
                  try dsimp only at hSw
                  obtain ⟨s0, s1, s2⟩ := hSw
                  go_simp
                  try with_reducible rfl
                try simp only [Act.put, List.setIfInBounds_toArray, List.set_cons_zero, List.set_cons_succ]
                have hbz6 := hbz.now hB6
                have hbf6 := hbz6.frozen 0
                have hbl6 := hbz6.lt
                have hbc6 := blk_c1 hbz6
                have hln1 : wr.heap.size ≠ g := by have := World.block_lt_of_cell? wr _ r0; simp only at this; omega
                have hln2 : wr.heap.size ≠ w.heap.size := by omega
                have x0 := (World.cell?_setCell_far w6 ⟨wr.heap.size, 0, none⟩ _ (.slice RX 0 rcx) (by show wr.heap.size ≠ _; exact hln2)).trans u0
                have x1 := (World.cell?_setCell_far w6 ⟨wr.heap.size, 0, none⟩ _ (.slice RX 0 rcx) (by show wr.heap.size ≠ _; exact hln2)).trans u1
                have x2 := (World.cell?_setCell_far w6 ⟨wr.heap.size, 0, none⟩ _ (.slice RX 0 rcx) (by show wr.heap.size ≠ _; exact hln1)).trans u2
                refine wpAnyH_ready (rs := [11]) (by kernel_rfl) (by simp) ?_
                refine AllReadyH.cons rfl (fun K hK => ?_) AllReadyH.nil
                go_simp
                refine hK.out _ _ ⟨x0, x1, x2⟩ (fun hH => ?_)
                clear hK K
                try simp only [Act.put, List.setIfInBounds_toArray, List.set_cons_zero, List.set_cons_succ]
                refine wpAnyH_take (i := 12) (oi := { dst := _, op := _, type := _, pos := _, after := _, guard := _ }) (v := ?_) rfl (by kernel_rfl) (by kernel_rfl) (by kernel_rfl) (fun _ _ _ h => h) (Or.inl ⟨by rfl, ?_⟩) hH ?_
                rotate_left
                · intro w9 hSw
                  try dsimp only at hSw
                  obtain ⟨s0, s1, s2⟩ := hSw
                  go_simp
                  try with_reducible rfl
                try simp only [Act.put, List.setIfInBounds_toArray, List.set_cons_zero, List.set_cons_succ]
                refine wpAnyH_done (by kernel_rfl) ?_ _
                have hB9 : Below wr.heap.size wr (w6.setCell ⟨wr.heap.size, 0, none⟩ (.slice RX 0 rcx)) := (hBd.trans (hZ.trans (hB6.mono hZ.size))).setCell (p := ⟨wr.heap.size, 0, none⟩) (Nat.le_refl _) _
                have hbx := blk_set1 hbz6 (.slice RX 0 rcx)
                replace hMx := (hMx.far (p := ⟨wr.heap.size, 0, none⟩) (by show wr.heap.size < _; omega) (.slice RX 0 rcx)).rebase (show wr.drew.heap.size ≤ _ from hZ.size)
                clear u0 u1 u2 v0 v1 v2 x0 x1 x2 hH hZ hB6 hbz hbz6 hbf6 hbl6 hbc6 hszz
                generalize w6.setCell ⟨wr.heap.size, 0, none⟩ (.slice RX 0 rcx) = w9 at *
                obtain ⟨nb, hnb⟩ : ∃ nb, wr.heap.size = nb := ⟨_, rfl⟩
                rw [hnb] at hbx ⊢
                go_wp2
                go_ret2
                exact RetMI.of hE.out ⟨_, rfl, OwnM.nil, hW.trans ((hB.trans (hB9.mono hs)).mono hs1)⟩
            · have hfe2 : Hid (firedF n gp cur (e : Int) = (fireM gp cur e, 0)) := by show _ = _; rw [hfe.out, hmk]; rfl
              go_wp2
              refine wp_region_held_drew (S := fun w' => w'.cell? ⟨w.heap.size, 0, none⟩ = some (.int .i64 n) ∧ w'.cell? ⟨w.heap.size, 1, none⟩ = some (.slice A gp.length c) ∧ w'.cell? ⟨g, off + i, none⟩ = some (.slice R1 gp.length rc1)) (by kernel_rfl) ⟨z0, z1, z2⟩ (fun hH => ?_)
              refine wpAnyH_take (i := 0) (oi := { dst := _, op := _, type := _, pos := _, after := _, guard := _ }) (v := ?_) rfl (by kernel_rfl) (by kernel_rfl) (by kernel_rfl) (fun _ _ _ h => h) (Or.inl ⟨by rfl, ?_⟩) hH ?_
              rotate_left
              · intro w9 hSw
                try dsimp only at hSw
                obtain ⟨s0, s1, s2⟩ := hSw
                go_simp
                try with_reducible rfl
              try simp only [Act.put, List.setIfInBounds_toArray, List.set_cons_zero, List.set_cons_succ]
              refine wpAnyH_take (i := 1) (oi := { dst := _, op := _, type := _, pos := _, after := _, guard := _ }) (v := ?_) rfl (by kernel_rfl) (by kernel_rfl) (by kernel_rfl) (fun _ _ _ h => h) (Or.inl ⟨by rfl, ?_⟩) hH ?_
              rotate_left
              · intro w9 hSw
                try dsimp only at hSw
                obtain ⟨s0, s1, s2⟩ := hSw
                go_simp
                try with_reducible rfl
              try simp only [Act.put, List.setIfInBounds_toArray, List.set_cons_zero, List.set_cons_succ]
              refine wpAnyH_take (i := 2) (oi := { dst := _, op := _, type := _, pos := _, after := _, guard := _ }) (v := ?_) rfl (by kernel_rfl) (by kernel_rfl) (by kernel_rfl) (fun _ _ _ h => h) (Or.inl ⟨by rfl, ?_⟩) hH ?_
              rotate_left
              · intro w9 hSw
                try dsimp only at hSw
                obtain ⟨s0, s1, s2⟩ := hSw
                go_simp
                try with_reducible rfl
              try simp only [Act.put, List.setIfInBounds_toArray, List.set_cons_zero, List.set_cons_succ]
              refine wpAnyH_take (i := 3) (oi := { dst := _, op := _, type := _, pos := _, after := _, guard := _ }) (v := ?_) rfl (by kernel_rfl) (by kernel_rfl) (by kernel_rfl) (fun _ _ _ h => h) (Or.inl ⟨by rfl, ?_⟩) hH ?_
              rotate_left
              · intro w9 hSw
                try dsimp only at hSw
                obtain ⟨s0, s1, s2⟩ := hSw
                go_simp
                try with_reducible rfl
              try simp only [Act.put, List.setIfInBounds_toArray, List.set_cons_zero, List.set_cons_succ]
              refine wpAnyH_take (i := 4) (oi := { dst := _, op := _, type := _, pos := _, after := _, guard := _ }) (v := ?_) rfl (by kernel_rfl) (by kernel_rfl) (by kernel_rfl) (fun _ _ _ h => h) (Or.inl ⟨by rfl, ?_⟩) hH ?_
              rotate_left
              · intro w9 hSw
                try dsimp only at hSw
                obtain ⟨s0, s1, s2⟩ := hSw
                go_simp
                try with_reducible rfl
              try simp only [Act.put, List.setIfInBounds_toArray, List.set_cons_zero, List.set_cons_succ]
              refine wpAnyH_take (i := 5) (oi := { dst := _, op := _, type := _, pos := _, after := _, guard := _ }) (v := ?_) rfl (by kernel_rfl) (by kernel_rfl) (by kernel_rfl) (fun _ _ _ h => h) (Or.inl ⟨by rfl, ?_⟩) hH ?_
              rotate_left
              · intro w9 hSw
                try dsimp only at hSw
                obtain ⟨s0, s1, s2⟩ := hSw
                go_simp
                try with_reducible rfl
              try simp only [Act.put, List.setIfInBounds_toArray, List.set_cons_zero, List.set_cons_succ]
              refine wpAnyH_ready (rs := [6, 10]) (by kernel_rfl) (by simp) ?_
              refine AllReadyH.cons rfl (fun K hK => ?_) (AllReadyH.cons rfl (fun K hK => ?_) AllReadyH.nil)
              · go_simp
                go_at_call 100
                refine (impl_fired _ n _ _ cur _ _ (((h0.now hB).now hBd)) ((hr.now hBd)) hcok (by omega) hgl).mono ?_
                rintro e6 w6 ⟨mx, rfl, hMx, hB6⟩
                rw [hfe2.out] at hMx ⊢
                obtain ⟨RX, rcx, rfl⟩ := own_shape_n hMx hfl.out
                have u0 := cell_keep (w := wr.drew) z0 hB6
                have u1 := cell_keep (w := wr.drew) z1 hB6
                have u2 := cell_keep (w := wr.drew) z2 hB6
                refine hK.out _ _ ⟨u0, u1, u2⟩ (fun hH => ?_)
                clear hK K
                try simp only [Act.put, List.setIfInBounds_toArray, List.set_cons_zero, List.set_cons_succ]
                refine wpAnyH_take (i := 7) (oi := { dst := _, op := _, type := _, pos := _, after := _, guard := _ }) (v := ?_) rfl (by kernel_rfl) (by kernel_rfl) (by kernel_rfl) (fun _ _ _ h => h) (Or.inl ⟨by rfl, ?_⟩) hH ?_
                rotate_left
                · intro w9 hSw
                  try dsimp only at hSw
                  obtain ⟨s0, s1, s2⟩ := hSw
                  go_simp
                  try with_reducible rfl
                try simp only [Act.put, List.setIfInBounds_toArray, List.set_cons_zero, List.set_cons_succ]
                refine wpAnyH_take (i := 8) (oi := { dst := _, op := _, type := _, pos := _, after := _, guard := _ }) (v := ?_) rfl (by kernel_rfl) (by kernel_rfl) (by kernel_rfl) (fun _ _ _ h => h) (Or.inl ⟨by rfl, ?_⟩) hH ?_
                rotate_left
                · intro w9 hSw
                  try dsimp only at hSw
                  obtain ⟨s0, s1, s2⟩ := hSw
                  go_simp
                  try with_reducible rfl
                try simp only [Act.put, List.setIfInBounds_toArray, List.set_cons_zero, List.set_cons_succ]
                refine wpAnyH_take (i := 9) (oi := { dst := _, op := _, type := _, pos := _, after := _, guard := _ }) (v := ?_) rfl (by kernel_rfl) (by kernel_rfl) (by kernel_rfl) (fun _ _ _ h => h) (Or.inl ⟨by rfl, ?_⟩) hH ?_
                rotate_left
                · intro w9 hSw
                  try dsimp only at hSw
                  obtain ⟨s0, s1, s2⟩ := hSw
                  go_simp
                  try with_reducible rfl
                try simp only [Act.put, List.setIfInBounds_toArray, List.set_cons_zero, List.set_cons_succ]
                have hZ : Below w6.heap.size w6 (w6.alloc (.cells #[.slice none 0 0] 32)) := (Below.refl _ _).alloc (Nat.le_refl _) _
                have hZ2 : Below w6.heap.size w6 (w6.alloc (.cells #[.slice RX gp.length rcx] 32)) := (Below.refl _ _).alloc (Nat.le_refl _) _
                have v0 := cell_keep u0 hZ
                have v1 := cell_keep u1 hZ
                have v2 := cell_keep u2 hZ
                have x0 := cell_keep u0 hZ2
                have x1 := cell_keep u1 hZ2
                have x2 := cell_keep u2 hZ2
                refine wpAnyH_ready (rs := [10]) (by kernel_rfl) (by simp) ?_
                refine AllReadyH.cons rfl (fun K hK => ?_) AllReadyH.nil
                go_simp
                refine hK.out _ _ ⟨v0, v1, v2⟩ (fun hH => ?_)
                clear hK K
                try simp only [Act.put, List.setIfInBounds_toArray, List.set_cons_zero, List.set_cons_succ]
                refine wpAnyH_ready (rs := [11]) (by kernel_rfl) (by simp) ?_
                refine AllReadyH.cons rfl (fun K hK => ?_) AllReadyH.nil
                go_simp
                refine hK.out _ _ ⟨x0, x1, x2⟩ (fun hH => ?_)
                clear hK K
                try simp only [Act.put, List.setIfInBounds_toArray, List.set_cons_zero, List.set_cons_succ]
                refine wpAnyH_take (i := 12) (oi := { dst := _, op := _, type := _, pos := _, after := _, guard := _ }) (v := ?_) rfl (by kernel_rfl) (by kernel_rfl) (by kernel_rfl) (fun _ _ _ h => h) (Or.inl ⟨by rfl, ?_⟩) hH ?_
                rotate_left
                · intro w9 hSw
                  try dsimp only at hSw
                  obtain ⟨s0, s1, s2⟩ := hSw
                  go_simp
                  try with_reducible rfl
                try simp only [Act.put, List.setIfInBounds_toArray, List.set_cons_zero, List.set_cons_succ]
                refine wpAnyH_done (by kernel_rfl) ?_ _
                have hB9 : Below wr.heap.size wr (w6.alloc (.cells #[.slice RX gp.length rcx] 32)) := hBd.trans (hB6.trans (hZ2.mono hB6.size))
                have hbx := Blk.newAt w6 (t := 32) (cs := #[.slice RX gp.length rcx]) _ rfl
                replace hMx := hMx.now hZ2
                clear u0 u1 u2 v0 v1 v2 x0 x1 x2 hH hZ hZ2 hB6
                generalize w6.alloc (.cells #[.slice RX gp.length rcx] 32) = w9 at *
                generalize w6.heap.size = nb at *
                have hcx := blk_c1 hbx
                have hbl9 := hbx.lt
                have hs9 := hB9.size
                have hbr9 := hbr.now hB9
                obtain ⟨y0, y1⟩ := hbr9.c2
                have l9 := hbr9.lt
                go_wp2_with fail
                refine (reach_contains _ G nb _ (fireM gp cur (e : Int)) w9 (hM.now hB9).lst hcx hMx.lst).mono ?_
                rintro e7 w7 ⟨rfl, hB7⟩
                have hB7t := hB9.trans (hB7.mono hs9)
                have hs7 := hB7t.size
                have hbr7 := hbr.now hB7t
                have hbx7 := hbx.now hB7
                have hcx7 := blk_c1 hbx7
                have hbl7 := hbx7.lt
                have hEn7 := hEn.now hB7t
                cases hcn : G.contains (fireM gp cur (e : Int))
                · by_cases h300 : G.length = 300
                  · have hE := Lib.hid (hbad.out (by unfold reFire; rw [if_neg (by rw [hmk]; simp), if_neg (by rw [hcn]; simp), if_pos h300]))
                    have q3 : ((G.length : Int) == 300) = true := by simp; omega
                    clear hmk hbad hcn h300
                    go_wp2
                    go_ret2
                    exact RetMI.of hE.out ⟨_, rfl, OwnM.nil, hW.trans ((hB.trans (hB7t.mono hs)).mono hs1)⟩
                  · have hS3 : Hid (reList gp cur (EL.take (j + 1)) F = some (G ++ [fireM gp cur (e : Int)])) := by show _ = _; rw [hSH.out]; unfold reFire; rw [if_neg (by rw [hmk]; simp), if_neg (by rw [hcn]; simp), if_neg h300]
                    have q3 : ((G.length : Int) == 300) = false := by simp; omega
                    clear hmk hbad hcn h300
                    obtain ⟨rs, hl, hO, hR, hD⟩ := hM
                    have hrlt : Hid (∀ i (hi : i < rs.length) q, rs[i].val.ownBlock = some q → q < wr.drew.heap.size) := fun i hi q hq => by have := ((hR i hi (by omega)).lt q hq).2; exact this
                    have hR' := Lib.hid hR
                    have hD' := Lib.hid hD
                    have hl' := Lib.hid hl
                    clear hR hD hl
                    have hMx7 := hMx.now hB7
                    have hlen : rs.length + [(⟨RX, gp.length, rcx⟩ : Ref)].length ≤ 1099511627776 := by rw [hl'.out]; simp; omega
                    have hOn := hO.now hB7t
                    have hLL : Hid ((rs ++ [(⟨RX, gp.length, rcx⟩ : Ref)]).length = G.length + 1) := by show _ = _; simp [hl'.out]
                    have hLG : Hid ((G ++ [fireM gp cur (e : Int)]).length = G.length + 1) := by show _ = _; simp
                    have hw17 : w1.heap.size ≤ w7.heap.size := by omega
                    obtain ⟨gY, cY, hYu, -, -, -, -⟩ := hO.at_ Ref.cells_len i (by rw [hl'.out]; exact hGi)
                    rw [hl'.out] at hYu
                    have hnE := Lib.hid (fun k (a : (Value.slice (some ⟨b6, o6, none⟩) EL.length ec).ownBlock = some k) (b : (Value.slice (some ⟨g, off, none⟩) G.length cy).ownBlock = some k) => by
                      rw [hYu] at b
                      have q1 : gY = k := by injection b
                      have q2 := own_ref_ne (hYu ▸ hOn) hEn7
                      exact q2 (by rw [a, q1]))
                    go_wp2_with (at_builtin; refine wpList_append_lst rfl _ _ 28 rfl Ref.cells 1 Ref.cells_one (by omega) w1.heap.size 32 _ 24 Try.underlying28 info_ref rfl _ _ rfl (hOn.alloc _) _ _ _ _ [(⟨RX, gp.length, rcx⟩ : Ref)] rfl (lst_new1 _ _ Ref.cells_len _ _ _ _ rfl _ (by simp)) hlen (by omega) (Nat.le_trans hw17 (by simp <;> omega)) ?_; intro v' w8 hO1 hG1 hD1; obtain ⟨V1, cv1, rfl⟩ := own_shape_n hO1 hLL.out)
                    have hMn : OwnM w8 w1.heap.size (.slice V1 (G.length + 1) cv1) (G ++ [fireM gp cur (e : Int)]) := OwnM.push2 hl'.out (hOn.alloc _) (fun i h1 h2 => ((hR'.out i h1 h2).now hB7t).alloc _) hD'.out ⟨RX, gp.length, rcx⟩ (fireM gp cur (e : Int)) wr.drew.heap.size (hMx7.alloc _) (show w1.heap.size ≤ wr.heap.size by omega) hrlt.out _ hG1 hO1
                    have hBn := below_app ((hB.trans (hB7t.mono hs)).alloc hw17 _) (Nat.le_trans hw17 (by simp)) hG1 (hOn.alloc _) (Nat.le_refl _)
                    have hEn8 := own_kept (hEn7.alloc _) hG1 (fun k a b => hnE.out k a b)
                    go_roundw
                    case rel => exact ⟨j + 1, _, V1, cv1, hlt2, by go_num, by rw [hLG.out], hS3, by rw [hLG.out]; exact hMn, hEn8, hBn⟩
                    case measure => simp [intOf]; omega
                · have hS3 : Hid (reList gp cur (EL.take (j + 1)) F = some G) := by show _ = _; rw [hSH.out]; unfold reFire; rw [if_neg (by rw [hmk]; simp), if_pos hcn]
                  clear hmk hbad hcn
                  go_wp2
                  go_roundw
                  case rel => exact ⟨j + 1, G, _, _, hlt2, by go_num, rfl, hS3, hM.now hB7t, hEn7, hB.trans (hB7t.mono hs)⟩
                  case measure => simp [intOf]; omega
              · have hZ : Below wr.drew.heap.size wr.drew (wr.drew.alloc (.cells #[.slice none 0 0] 32)) := (Below.refl _ _).alloc (Nat.le_refl _) _
                have v0 := cell_keep (w := wr.drew) z0 hZ
                have v1 := cell_keep (w := wr.drew) z1 hZ
                have v2 := cell_keep (w := wr.drew) z2 hZ
                have hbz := Blk.newAt wr.drew (t := 32) (cs := #[.slice none 0 0]) wr.heap.size rfl
                have hszz : (wr.drew.alloc (.cells #[.slice none 0 0] 32)).heap.size = wr.heap.size + 1 := by simp
                go_simp
                refine hK.out _ _ ⟨v0, v1, v2⟩ (fun hH => ?_)
                clear hK K
                try simp only [Act.put, List.setIfInBounds_toArray, List.set_cons_zero, List.set_cons_succ]
                refine wpAnyH_ready (rs := [6]) (by kernel_rfl) (by simp) ?_
                refine AllReadyH.cons rfl (fun K hK => ?_) AllReadyH.nil
                go_simp
                go_at_call 100
                refine (impl_fired _ n _ _ cur _ _ (((h0.now hB).now hBd).now hZ) ((hr.now hBd).now hZ) hcok (by omega) hgl).mono ?_
                rintro e6 w6 ⟨mx, rfl, hMx, hB6⟩
                rw [hfe2.out] at hMx ⊢
                obtain ⟨RX, rcx, rfl⟩ := own_shape_n hMx hfl.out
                have u0 := cell_keep v0 hB6
                have u1 := cell_keep v1 hB6
                have u2 := cell_keep v2 hB6
                refine hK.out _ _ ⟨u0, u1, u2⟩ (fun hH => ?_)
                clear hK K
                try simp only [Act.put, List.setIfInBounds_toArray, List.set_cons_zero, List.set_cons_succ]
                refine wpAnyH_take (i := 7) (oi := { dst := _, op := _, type := _, pos := _, after := _, guard := _ }) (v := ?_) rfl (by kernel_rfl) (by kernel_rfl) (by kernel_rfl) (fun _ _ _ h => h) (Or.inl ⟨by rfl, ?_⟩) hH ?_
                rotate_left
                · intro w9 hSw
                  try dsimp only at hSw
                  obtain ⟨s0, s1, s2⟩ := hSw
                  go_simp
                  try with_reducible rfl
                try simp only [Act.put, List.setIfInBounds_toArray, List.set_cons_zero, List.set_cons_succ]
                refine wpAnyH_take (i := 8) (oi := { dst := _, op := _, type := _, pos := _, after := _, guard := _ }) (v := ?_) rfl (by kernel_rfl) (by kernel_rfl) (by kernel_rfl) (fun _ _ _ h => h) (Or.inl ⟨by rfl, ?_⟩) hH ?_
                rotate_left
                · intro w9 hSw
                  try dsimp only at hSw
                  obtain ⟨s0, s1, s2⟩ := hSw
                  go_simp
                  try with_reducible rfl
                try simp only [Act.put, List.setIfInBounds_toArray, List.set_cons_zero, List.set_cons_succ]
                refine wpAnyH_take (i := 9) (oi := { dst := _, op := _, type := _, pos := _, after := _, guard := _ }) (v := ?_) rfl (by kernel_rfl) (by kernel_rfl) (by kernel_rfl) (fun _ _ _ h => h) (Or.inl ⟨by rfl, ?_⟩) hH ?_
                rotate_left
                · intro w9 hSw
                  try dsimp only at hSw
                  obtain ⟨s0, s1, s2⟩ := hSw
                  go_simp
                  try with_reducible rfl
                try simp only [Act.put, List.setIfInBounds_toArray, List.set_cons_zero, List.set_cons_succ]
                have hbz6 := hbz.now hB6
                have hbf6 := hbz6.frozen 0
                have hbl6 := hbz6.lt
                have hbc6 := blk_c1 hbz6
                have hln1 : wr.heap.size ≠ g := by have := World.block_lt_of_cell? wr _ r0; simp only at this; omega
                have hln2 : wr.heap.size ≠ w.heap.size := by omega
                have x0 := (World.cell?_setCell_far w6 ⟨wr.heap.size, 0, none⟩ _ (.slice RX gp.length rcx) (by show wr.heap.size ≠ _; exact hln2)).trans u0
                have x1 := (World.cell?_setCell_far w6 ⟨wr.heap.size, 0, none⟩ _ (.slice RX gp.length rcx) (by show wr.heap.size ≠ _; exact hln2)).trans u1
                have x2 := (World.cell?_setCell_far w6 ⟨wr.heap.size, 0, none⟩ _ (.slice RX gp.length rcx) (by show wr.heap.size ≠ _; exact hln1)).trans u2
                refine wpAnyH_ready (rs := [11]) (by kernel_rfl) (by simp) ?_
                refine AllReadyH.cons rfl (fun K hK => ?_) AllReadyH.nil
                go_simp
                refine hK.out _ _ ⟨x0, x1, x2⟩ (fun hH => ?_)
                clear hK K
                try simp only [Act.put, List.setIfInBounds_toArray, List.set_cons_zero, List.set_cons_succ]
                refine wpAnyH_take (i := 12) (oi := { dst := _, op := _, type := _, pos := _, after := _, guard := _ }) (v := ?_) rfl (by kernel_rfl) (by kernel_rfl) (by kernel_rfl) (fun _ _ _ h => h) (Or.inl ⟨by rfl, ?_⟩) hH ?_
                rotate_left
                · intro w9 hSw
                  try dsimp only at hSw
                  obtain ⟨s0, s1, s2⟩ := hSw
                  go_simp
                  try with_reducible rfl
                try simp only [Act.put, List.setIfInBounds_toArray, List.set_cons_zero, List.set_cons_succ]
                refine wpAnyH_done (by kernel_rfl) ?_ _
                have hB9 : Below wr.heap.size wr (w6.setCell ⟨wr.heap.size, 0, none⟩ (.slice RX gp.length rcx)) := (hBd.trans (hZ.trans (hB6.mono hZ.size))).setCell (p := ⟨wr.heap.size, 0, none⟩) (Nat.le_refl _) _
                have hbx := blk_set1 hbz6 (.slice RX gp.length rcx)
                replace hMx := (hMx.far (p := ⟨wr.heap.size, 0, none⟩) (by show wr.heap.size < _; omega) (.slice RX gp.length rcx)).rebase (show wr.drew.heap.size ≤ _ from hZ.size)
                clear u0 u1 u2 v0 v1 v2 x0 x1 x2 hH hZ hB6 hbz hbz6 hbf6 hbl6 hbc6 hszz
                generalize w6.setCell ⟨wr.heap.size, 0, none⟩ (.slice RX gp.length rcx) = w9 at *
                obtain ⟨nb, hnb⟩ : ∃ nb, wr.heap.size = nb := ⟨_, rfl⟩
                rw [hnb] at hbx ⊢
                have hcx := blk_c1 hbx
                have hbl9 := hbx.lt
                have hs9 := hB9.size
                have hbr9 := hbr.now hB9
                obtain ⟨y0, y1⟩ := hbr9.c2
                have l9 := hbr9.lt
                go_wp2_with fail
                refine (reach_contains _ G nb _ (fireM gp cur (e : Int)) w9 (hM.now hB9).lst hcx hMx.lst).mono ?_
                rintro e7 w7 ⟨rfl, hB7⟩
                have hB7t := hB9.trans (hB7.mono hs9)
                have hs7 := hB7t.size
                have hbr7 := hbr.now hB7t
                have hbx7 := hbx.now hB7
                have hcx7 := blk_c1 hbx7
                have hbl7 := hbx7.lt
                have hEn7 := hEn.now hB7t
                cases hcn : G.contains (fireM gp cur (e : Int))
                · by_cases h300 : G.length = 300
                  · have hE := Lib.hid (hbad.out (by unfold reFire; rw [if_neg (by rw [hmk]; simp), if_neg (by rw [hcn]; simp), if_pos h300]))
                    have q3 : ((G.length : Int) == 300) = true := by simp; omega
                    clear hmk hbad hcn h300
                    go_wp2
                    go_ret2
                    exact RetMI.of hE.out ⟨_, rfl, OwnM.nil, hW.trans ((hB.trans (hB7t.mono hs)).mono hs1)⟩
                  · have hS3 : Hid (reList gp cur (EL.take (j + 1)) F = some (G ++ [fireM gp cur (e : Int)])) := by show _ = _; rw [hSH.out]; unfold reFire; rw [if_neg (by rw [hmk]; simp), if_neg (by rw [hcn]; simp), if_neg h300]
                    have q3 : ((G.length : Int) == 300) = false := by simp; omega
                    clear hmk hbad hcn h300
                    obtain ⟨rs, hl, hO, hR, hD⟩ := hM
                    have hrlt : Hid (∀ i (hi : i < rs.length) q, rs[i].val.ownBlock = some q → q < wr.drew.heap.size) := fun i hi q hq => by have := ((hR i hi (by omega)).lt q hq).2; exact this
                    have hR' := Lib.hid hR
                    have hD' := Lib.hid hD
                    have hl' := Lib.hid hl
                    clear hR hD hl
                    have hMx7 := hMx.now hB7
                    have hlen : rs.length + [(⟨RX, gp.length, rcx⟩ : Ref)].length ≤ 1099511627776 := by rw [hl'.out]; simp; omega
                    have hOn := hO.now hB7t
                    have hLL : Hid ((rs ++ [(⟨RX, gp.length, rcx⟩ : Ref)]).length = G.length + 1) := by show _ = _; simp [hl'.out]
                    have hLG : Hid ((G ++ [fireM gp cur (e : Int)]).length = G.length + 1) := by show _ = _; simp
                    have hw17 : w1.heap.size ≤ w7.heap.size := by omega
                    obtain ⟨gY, cY, hYu, -, -, -, -⟩ := hO.at_ Ref.cells_len i (by rw [hl'.out]; exact hGi)
                    rw [hl'.out] at hYu
                    have hnE := Lib.hid (fun k (a : (Value.slice (some ⟨b6, o6, none⟩) EL.length ec).ownBlock = some k) (b : (Value.slice (some ⟨g, off, none⟩) G.length cy).ownBlock = some k) => by
                      rw [hYu] at b
                      have q1 : gY = k := by injection b
                      have q2 := own_ref_ne (hYu ▸ hOn) hEn7
                      exact q2 (by rw [a, q1]))
                    go_wp2_with (at_builtin; refine wpList_append_lst rfl _ _ 28 rfl Ref.cells 1 Ref.cells_one (by omega) w1.heap.size 32 _ 24 Try.underlying28 info_ref rfl _ _ rfl (hOn.alloc _) _ _ _ _ [(⟨RX, gp.length, rcx⟩ : Ref)] rfl (lst_new1 _ _ Ref.cells_len _ _ _ _ rfl _ (by simp)) hlen (by omega) (Nat.le_trans hw17 (by simp <;> omega)) ?_; intro v' w8 hO1 hG1 hD1; obtain ⟨V1, cv1, rfl⟩ := own_shape_n hO1 hLL.out)
                    have hMn : OwnM w8 w1.heap.size (.slice V1 (G.length + 1) cv1) (G ++ [fireM gp cur (e : Int)]) := OwnM.push2 hl'.out (hOn.alloc _) (fun i h1 h2 => ((hR'.out i h1 h2).now hB7t).alloc _) hD'.out ⟨RX, gp.length, rcx⟩ (fireM gp cur (e : Int)) wr.drew.heap.size (hMx7.alloc _) (show w1.heap.size ≤ wr.heap.size by omega) hrlt.out _ hG1 hO1
                    have hBn := below_app ((hB.trans (hB7t.mono hs)).alloc hw17 _) (Nat.le_trans hw17 (by simp)) hG1 (hOn.alloc _) (Nat.le_refl _)
                    have hEn8 := own_kept (hEn7.alloc _) hG1 (fun k a b => hnE.out k a b)
                    go_roundw
                    case rel => exact ⟨j + 1, _, V1, cv1, hlt2, by go_num, by rw [hLG.out], hS3, by rw [hLG.out]; exact hMn, hEn8, hBn⟩
                    case measure => simp [intOf]; omega
                · have hS3 : Hid (reList gp cur (EL.take (j + 1)) F = some G) := by show _ = _; rw [hSH.out]; unfold reFire; rw [if_neg (by rw [hmk]; simp), if_pos hcn]
                  clear hmk hbad hcn
                  go_wp2
                  go_roundw
                  case rel => exact ⟨j + 1, G, _, _, hlt2, by go_num, rfl, hS3, hM.now hB7t, hEn7, hB.trans (hB7t.mono hs)⟩
                  case measure => simp [intOf]; omega
          · obtain rfl : j = EL.length := by omega
            have hRA' : Hid (reAll gp n (301 - (i + 1)) (i + 1) G = reAll gp n 301 0 [firstF gp]) := by
              show _ = _
              have q1 := hEv.out
              rw [List.take_length] at q1
              rw [← hgo.out, q1]
              rfl
            have hbr := hb0.now hB
            obtain ⟨k0, k1⟩ := hbr.c2
            have l0 := hbr.lt
            go_wp2
            exact ⟨⟨i + 1, G, _, _, by go_num, rfl, by omega, hGkH, hRA', hM, hB⟩, by simp [intOf]; omega⟩
      · have hE : Hid (reachF n gp = (F, 0)) := reach_some hg'.out (by rw [← hRA.out]; exact reAll_end hlt)
        go_wp2
        go_ret2
        exact RetMI.of hE.out ⟨_, rfl, hM.rebase hs1, hW.trans (hB.mono hs1)⟩
end Go.Proofs.Ythamppcpjmnnkaa
