/-
  The walks of the reference's star (by repeated products) and of its product of a matrix and a list.
-/
import Derived.Test.YtcoomogabicfnaaStarS
import Derived.Test.YtcoomogabicfnaaStarB
namespace Go.Proofs.Ytcoomogabicfnaa
open Go.RowKit
set_option linter.unusedVariables false
set_option linter.unusedSimpArgs false
theorem matF_inj {n : Nat} {F G : Nat → Nat → Int} : matF n F n = matF n G n ↔ ∀ i j, i < n → j < n → F i j = G i j := by
  refine ⟨fun h i j hi hj => ?_, fun h => matF_congr h⟩
  have h1 : (matF n F n)[i]? = (matF n G n)[i]? := by rw [h]
  simp only [matF, List.getElem?_map, List.getElem?_range hi, Option.map_some, Option.some.injEq] at h1
  have h2 : ((List.range n).map fun j => F i j)[j]? = ((List.range n).map fun j => G i j)[j]? := by rw [h1]
  simpa only [List.getElem?_map, List.getElem?_range hj, Option.map_some, Option.some.injEq] using h2
theorem it_bnd {n : Nat} {W0 : Int} {F : Nat → Nat → Int} (h : finM n W0 F) (hW0 : 0 ≤ W0) (hW1 : W0 ≤ 4000000000) (hn : n ≤ 10) (k : Nat) (hk : k ≤ n + 1) : bnd n (itF n F k) := fun i j hi hj => by
  have h1 := finM_it h hW0 (by omega) k (by omega) i j hi hj
  have h2 : (k : Int) * W0 ≤ 11 * 4000000000 := Int.mul_le_mul (by omega) hW1 hW0 (by omega)
  rcases h1 with h1 | h1
  · exact .inr h1
  · exact .inl (by omega)

set_option maxHeartbeats 1000000 in
set_option maxRecDepth 100000 in
theorem spec_l01Same (v u : Value) (l m : List Int) (w : World) (h0 : Lst intCell 1 w w.heap.size v l) (h1 : Lst intCell 1 w w.heap.size u m) :
    Calls Try.prog 99 #[v, u] w fun r w' => r = .returned (.bool (decide (l = m))) ∧ Below w.heap.size w w' := by
  obtain ⟨A, c, rfl⟩ := h0.shape
  obtain ⟨C, d, rfl⟩ := h1.shape
  have hl := h0.len_le
  have hm := h1.len_le
  by_cases hlm : l.length = m.length
  · have hne : ((l.length : Int) != (m.length : Int)) = false := by rw [hlm]; simp
    have hlm1 : l.length ≤ m.length := by omega
    have hlm2 : m.length ≤ l.length := by omega
    clear hlm
    go_enter Try.func99, Try.ntmps99
    go_wp2
    go_loopw [5] (fun i wr => ∃ k : Nat, k ≤ l.length ∧ i = .int .i64 k ∧ Hid (l.take k = m.take k) ∧ Below w.heap.size w wr) (fun i _ => l.length - (intOf i).toNat)
    case atStart => exact ⟨0, Nat.zero_le _, rfl, rfl, Below.refl _ _⟩
    case round =>
      obtain ⟨k, hk, rfl, hE, hB⟩ := hrel
      by_cases hlt : k < l.length
      · have hlt' : k < m.length := by omega
        obtain ⟨b1, o1, hA, -, d0⟩ := ints_at (h0.now hB) k hlt
        cases hA
        obtain ⟨b2, o2, hA2, -, d1⟩ := ints_at (h1.now hB) k hlt'
        cases hA2
        have i1 : (0 : Int) ≤ (k : Int) := by omega
        have i2 : (k : Int) < (l.length : Int) := by omega
        have i3 : (k : Int) < (m.length : Int) := by omega
        obtain ⟨x, hx⟩ : ∃ x, l[k] = x := ⟨_, rfl⟩
        obtain ⟨y, hy⟩ : ∃ y, m[k] = y := ⟨_, rfl⟩
        rw [hx] at d0
        rw [hy] at d1
        have hxH := Lib.hid hx
        have hyH := Lib.hid hy
        clear hx hy
        have c0 : wr.drew.cell? ⟨b1, o1 + k, none⟩ = some (.int .i64 x) := d0
        have c1 : wr.drew.cell? ⟨b2, o2 + k, none⟩ = some (.int .i64 y) := d1
        clear d0 d1
        go_wp2
        refine wp_region_held_drew (S := fun w' => w'.cell? ⟨b1, o1 + k, none⟩ = some (.int .i64 x) ∧ w'.cell? ⟨b2, o2 + k, none⟩ = some (.int .i64 y)) (by kernel_rfl) ⟨c0, c1⟩ (fun hH => ?_)
        refine tkH 0 (v := ?_) rfl (fun _ _ _ h => h) (Or.inl ⟨by rfl, ?_⟩) hH ?_
        rotate_left
        · intro w9 hSw
          try dsimp only at hSw
          obtain ⟨s0, s1⟩ := hSw
          go_simp
          try with_reducible rfl
        try simp only [Act.put, List.setIfInBounds_toArray, List.set_cons_zero, List.set_cons_succ]
        refine tkH 1 (v := ?_) rfl (fun _ _ _ h => h) (Or.inl ⟨by rfl, ?_⟩) hH ?_
        rotate_left
        · intro w9 hSw
          try dsimp only at hSw
          obtain ⟨s0, s1⟩ := hSw
          go_simp
          try with_reducible rfl
        try simp only [Act.put, List.setIfInBounds_toArray, List.set_cons_zero, List.set_cons_succ]
        refine tkH 2 (v := ?_) rfl (fun _ _ _ h => h) (Or.inl ⟨by rfl, ?_⟩) hH ?_
        rotate_left
        · intro w9 hSw
          try dsimp only at hSw
          obtain ⟨s0, s1⟩ := hSw
          go_simp
          try with_reducible rfl
        try simp only [Act.put, List.setIfInBounds_toArray, List.set_cons_zero, List.set_cons_succ]
        refine tkH 3 (v := ?_) rfl (fun _ _ _ h => h) (Or.inl ⟨by rfl, ?_⟩) hH ?_
        rotate_left
        · intro w9 hSw
          try dsimp only at hSw
          obtain ⟨s0, s1⟩ := hSw
          go_simp
          try with_reducible rfl
        try simp only [Act.put, List.setIfInBounds_toArray, List.set_cons_zero, List.set_cons_succ]
        refine tkH 4 (v := ?_) rfl (fun _ _ _ h => h) (Or.inl ⟨by rfl, ?_⟩) hH ?_
        rotate_left
        · intro w9 hSw
          try dsimp only at hSw
          obtain ⟨s0, s1⟩ := hSw
          go_simp
          try with_reducible rfl
        try simp only [Act.put, List.setIfInBounds_toArray, List.set_cons_zero, List.set_cons_succ]
        refine tkH 5 (v := ?_) rfl (fun _ _ _ h => h) (Or.inl ⟨by rfl, ?_⟩) hH ?_
        rotate_left
        · intro w9 hSw
          try dsimp only at hSw
          obtain ⟨s0, s1⟩ := hSw
          go_simp
          try with_reducible rfl
        try simp only [Act.put, List.setIfInBounds_toArray, List.set_cons_zero, List.set_cons_succ]
        refine tkH 6 (v := ?_) rfl (fun _ _ _ h => h) (Or.inl ⟨by rfl, ?_⟩) hH ?_
        rotate_left
        · intro w9 hSw
          try dsimp only at hSw
          obtain ⟨s0, s1⟩ := hSw
          go_simp
          try with_reducible rfl
        try simp only [Act.put, List.setIfInBounds_toArray, List.set_cons_zero, List.set_cons_succ]
        refine tkH 7 (v := ?_) rfl (fun _ _ _ h => h) (Or.inl ⟨by rfl, ?_⟩) hH ?_
        rotate_left
        · intro w9 hSw
          try dsimp only at hSw
          obtain ⟨s0, s1⟩ := hSw
          go_simp
          try with_reducible rfl
        try simp only [Act.put, List.setIfInBounds_toArray, List.set_cons_zero, List.set_cons_succ]
        refine tkH 8 (v := ?_) rfl (fun _ _ _ h => h) (Or.inl ⟨by rfl, ?_⟩) hH ?_
        rotate_left
        · intro w9 hSw
          try dsimp only at hSw
          obtain ⟨s0, s1⟩ := hSw
          go_simp
          try with_reducible rfl
        try simp only [Act.put, List.setIfInBounds_toArray, List.set_cons_zero, List.set_cons_succ]
        refine wpAnyH_done (by kernel_rfl) ?_ _
        have hB' := hB.trans ((Below.refl _ wr).drew.mono hB.size)
        by_cases heq : x = y
        · have hq : (x != y) = false := by simp [heq]
          have hE' : Hid (l.take (k + 1) = m.take (k + 1)) := by show _ = _; rw [take_succ_get _ _ hlt, take_succ_get _ _ hlt', hE.out, hxH.out, hyH.out, heq]
          clear heq
          go_wp2
          go_roundw
          case rel => exact ⟨k + 1, hlt, by go_num, hE', hB'⟩
          case measure => simp [intOf]; omega
        · have hq : (x != y) = true := by simpa using heq
          have hF : Hid (decide (l = m) = false) := decide_eq_false (by intro h; subst h; exact heq (hxH.out.symm.trans hyH.out))
          clear heq
          go_wp2
          go_ret
          exact ⟨ret_bool hF.out.symm, hB'⟩
      · obtain rfl : k = l.length := by omega
        have hF : Hid (decide (l = m) = true) := decide_eq_true (by have h := hE.out; rw [List.take_length] at h; rw [h]; exact List.take_of_length_le (by omega))
        go_wp2
        go_ret
        exact ⟨ret_bool hF.out.symm, hB⟩
  · have hne : ((l.length : Int) != (m.length : Int)) = true := by rw [bne_iff_ne]; omega
    have hF : Hid (decide (l = m) = false) := decide_eq_false (by intro h; exact hlm (by rw [h]))
    clear hlm
    go_enter Try.func99, Try.ntmps99
    go_wp2
    go_ret
    exact ⟨ret_bool hF.out.symm, Below.refl _ _⟩
set_option maxHeartbeats 1000000 in
set_option maxRecDepth 100000 in
theorem spec_l02Same (v u : Value) (l m : List (List Int)) (w : World) (h0 : LstM w w.heap.size v l) (h1 : LstM w w.heap.size u m) :
    Calls Try.prog 80 #[v, u] w fun r w' => r = .returned (.bool (decide (l = m))) ∧ Below w.heap.size w w' := by
  obtain ⟨A, c, rfl⟩ := h0.shape
  obtain ⟨C, d, rfl⟩ := h1.shape
  have hl := h0.len_le
  have hm := h1.len_le
  by_cases hlm : l.length = m.length
  · have hne : ((l.length : Int) != (m.length : Int)) = false := by rw [hlm]; simp
    have hlm1 : l.length ≤ m.length := by omega
    have hlm2 : m.length ≤ l.length := by omega
    clear hlm
    go_enter Try.func80, Try.ntmps80
    go_wp2
    go_loopw [5] (fun i wr => ∃ k : Nat, k ≤ l.length ∧ i = .int .i64 k ∧ Hid (l.take k = m.take k) ∧ Below w.heap.size w wr) (fun i _ => l.length - (intOf i).toNat)
    case atStart => exact ⟨0, Nat.zero_le _, rfl, rfl, Below.refl _ _⟩
    case round =>
      obtain ⟨k, hk, rfl, hE, hB⟩ := hrel
      by_cases hlt : k < l.length
      · have hlt' : k < m.length := by omega
        obtain ⟨b1, o1, _, r1, hA, -, d0, hr1⟩ := (h0.now hB).row k hlt
        cases hA
        obtain ⟨b2, o2, _, r2, hA, -, d1, hr2⟩ := (h1.now hB).row k hlt'
        cases hA
        obtain ⟨R1, rn1, rc1⟩ := r1
        obtain ⟨R2, rn2, rc2⟩ := r2
        simp only [Ref.val] at d0 d1 hr1 hr2
        have i1 : (0 : Int) ≤ (k : Int) := by omega
        have i2 : (k : Int) < (l.length : Int) := by omega
        have i3 : (k : Int) < (m.length : Int) := by omega
        have hBd : Below wr.heap.size wr wr.drew := Below.drew (Below.refl _ wr)
        have z0 := cell_keep d0 hBd
        have z1 := cell_keep d1 hBd
        have hsm := Lib.hid (spec_l01Same _ _ l[k] m[k] wr.drew (hr1.now hBd) (hr2.now hBd))
        have hBt : ∀ w9 : World, Below wr.drew.heap.size wr.drew w9 → Below w.heap.size w w9 := fun w9 h9 => hB.trans ((hBd.trans (Below.mono (w := wr.drew) h9 (Nat.le_refl _))).mono hB.size)
        have hBt' := Lib.hid hBt
        clear hBt d0 d1 hr1 hr2 h0 h1
        by_cases heq : l[k] = m[k]
        · have hE' : Hid (l.take (k + 1) = m.take (k + 1)) := by show _ = _; rw [take_succ_get _ _ hlt, take_succ_get _ _ hlt', hE.out, heq]
          rw [decide_eq_true heq] at hsm
          clear heq
          go_wp2_with fail
          refine wp_region_held_drew (S := fun w' => w'.cell? ⟨b1, o1 + k, none⟩ = some (.slice R1 rn1 rc1) ∧ w'.cell? ⟨b2, o2 + k, none⟩ = some (.slice R2 rn2 rc2)) (by kernel_rfl) ⟨z0, z1⟩ (fun hH => ?_)
          refine tkH 0 (v := ?_) rfl (fun _ _ _ h => h) (Or.inl ⟨by rfl, ?_⟩) hH ?_
          rotate_left
          · intro w9 hSw
            try dsimp only at hSw
            obtain ⟨s0, s1⟩ := hSw
            go_simp
            try with_reducible rfl
          try simp only [Act.put, List.setIfInBounds_toArray, List.set_cons_zero, List.set_cons_succ]
          refine tkH 1 (v := ?_) rfl (fun _ _ _ h => h) (Or.inl ⟨by rfl, ?_⟩) hH ?_
          rotate_left
          · intro w9 hSw
            try dsimp only at hSw
            obtain ⟨s0, s1⟩ := hSw
            go_simp
            try with_reducible rfl
          try simp only [Act.put, List.setIfInBounds_toArray, List.set_cons_zero, List.set_cons_succ]
          refine tkH 2 (v := ?_) rfl (fun _ _ _ h => h) (Or.inl ⟨by rfl, ?_⟩) hH ?_
          rotate_left
          · intro w9 hSw
            try dsimp only at hSw
            obtain ⟨s0, s1⟩ := hSw
            go_simp
            try with_reducible rfl
          try simp only [Act.put, List.setIfInBounds_toArray, List.set_cons_zero, List.set_cons_succ]
          refine tkH 3 (v := ?_) rfl (fun _ _ _ h => h) (Or.inl ⟨by rfl, ?_⟩) hH ?_
          rotate_left
          · intro w9 hSw
            try dsimp only at hSw
            obtain ⟨s0, s1⟩ := hSw
            go_simp
            try with_reducible rfl
          try simp only [Act.put, List.setIfInBounds_toArray, List.set_cons_zero, List.set_cons_succ]
          refine tkH 4 (v := ?_) rfl (fun _ _ _ h => h) (Or.inl ⟨by rfl, ?_⟩) hH ?_
          rotate_left
          · intro w9 hSw
            try dsimp only at hSw
            obtain ⟨s0, s1⟩ := hSw
            go_simp
            try with_reducible rfl
          try simp only [Act.put, List.setIfInBounds_toArray, List.set_cons_zero, List.set_cons_succ]
          refine tkH 5 (v := ?_) rfl (fun _ _ _ h => h) (Or.inl ⟨by rfl, ?_⟩) hH ?_
          rotate_left
          · intro w9 hSw
            try dsimp only at hSw
            obtain ⟨s0, s1⟩ := hSw
            go_simp
            try with_reducible rfl
          try simp only [Act.put, List.setIfInBounds_toArray, List.set_cons_zero, List.set_cons_succ]
          refine tkH 6 (v := ?_) rfl (fun _ _ _ h => h) (Or.inl ⟨by rfl, ?_⟩) hH ?_
          rotate_left
          · intro w9 hSw
            try dsimp only at hSw
            obtain ⟨s0, s1⟩ := hSw
            go_simp
            try with_reducible rfl
          try simp only [Act.put, List.setIfInBounds_toArray, List.set_cons_zero, List.set_cons_succ]
          refine tkH 7 (v := ?_) rfl (fun _ _ _ h => h) (Or.inl ⟨by rfl, ?_⟩) hH ?_
          rotate_left
          · intro w9 hSw
            try dsimp only at hSw
            obtain ⟨s0, s1⟩ := hSw
            go_simp
            try with_reducible rfl
          try simp only [Act.put, List.setIfInBounds_toArray, List.set_cons_zero, List.set_cons_succ]
          refine wpAnyH_ready (rs := [8]) (by kernel_rfl) (by simp) ?_
          refine AllReadyH.cons rfl (fun K hK => ?_) AllReadyH.nil
          go_simp
          go_at_call 99
          refine (hsm.out).mono ?_
          rintro e9 w9 ⟨rfl, hB9⟩
          have y0 := cell_keep (w := wr.drew) z0 hB9
          have y1 := cell_keep (w := wr.drew) z1 hB9
          refine hK.out _ _ ⟨y0, y1⟩ (fun hH => ?_)
          clear hK K
          try simp only [Act.put, List.setIfInBounds_toArray, List.set_cons_zero, List.set_cons_succ]
          refine tkH 9 (v := ?_) rfl (fun _ _ _ h => h) (Or.inl ⟨by rfl, ?_⟩) hH ?_
          rotate_left
          · intro w9 hSw
            try dsimp only at hSw
            obtain ⟨s0, s1⟩ := hSw
            go_simp
            try with_reducible rfl
          try simp only [Act.put, List.setIfInBounds_toArray, List.set_cons_zero, List.set_cons_succ]
          refine wpAnyH_done (by kernel_rfl) ?_ _
          go_wp2
          go_roundw
          case rel => exact ⟨k + 1, hlt, by go_num, hE', hBt'.out _ hB9⟩
          case measure => simp [intOf]; omega
        · have hF : Hid (decide (l = m) = false) := decide_eq_false (by intro h; subst h; exact heq rfl)
          rw [decide_eq_false heq] at hsm
          clear heq
          go_wp2_with fail
          refine wp_region_held_drew (S := fun w' => w'.cell? ⟨b1, o1 + k, none⟩ = some (.slice R1 rn1 rc1) ∧ w'.cell? ⟨b2, o2 + k, none⟩ = some (.slice R2 rn2 rc2)) (by kernel_rfl) ⟨z0, z1⟩ (fun hH => ?_)
          refine tkH 0 (v := ?_) rfl (fun _ _ _ h => h) (Or.inl ⟨by rfl, ?_⟩) hH ?_
          rotate_left
          · intro w9 hSw
            try dsimp only at hSw
            obtain ⟨s0, s1⟩ := hSw
            go_simp
            try with_reducible rfl
          try simp only [Act.put, List.setIfInBounds_toArray, List.set_cons_zero, List.set_cons_succ]
          refine tkH 1 (v := ?_) rfl (fun _ _ _ h => h) (Or.inl ⟨by rfl, ?_⟩) hH ?_
          rotate_left
          · intro w9 hSw
            try dsimp only at hSw
            obtain ⟨s0, s1⟩ := hSw
            go_simp
            try with_reducible rfl
          try simp only [Act.put, List.setIfInBounds_toArray, List.set_cons_zero, List.set_cons_succ]
          refine tkH 2 (v := ?_) rfl (fun _ _ _ h => h) (Or.inl ⟨by rfl, ?_⟩) hH ?_
          rotate_left
          · intro w9 hSw
            try dsimp only at hSw
            obtain ⟨s0, s1⟩ := hSw
            go_simp
            try with_reducible rfl
          try simp only [Act.put, List.setIfInBounds_toArray, List.set_cons_zero, List.set_cons_succ]
          refine tkH 3 (v := ?_) rfl (fun _ _ _ h => h) (Or.inl ⟨by rfl, ?_⟩) hH ?_
          rotate_left
          · intro w9 hSw
            try dsimp only at hSw
            obtain ⟨s0, s1⟩ := hSw
            go_simp
            try with_reducible rfl
          try simp only [Act.put, List.setIfInBounds_toArray, List.set_cons_zero, List.set_cons_succ]
          refine tkH 4 (v := ?_) rfl (fun _ _ _ h => h) (Or.inl ⟨by rfl, ?_⟩) hH ?_
          rotate_left
          · intro w9 hSw
            try dsimp only at hSw
            obtain ⟨s0, s1⟩ := hSw
            go_simp
            try with_reducible rfl
          try simp only [Act.put, List.setIfInBounds_toArray, List.set_cons_zero, List.set_cons_succ]
          refine tkH 5 (v := ?_) rfl (fun _ _ _ h => h) (Or.inl ⟨by rfl, ?_⟩) hH ?_
          rotate_left
          · intro w9 hSw
            try dsimp only at hSw
            obtain ⟨s0, s1⟩ := hSw
            go_simp
            try with_reducible rfl
          try simp only [Act.put, List.setIfInBounds_toArray, List.set_cons_zero, List.set_cons_succ]
          refine tkH 6 (v := ?_) rfl (fun _ _ _ h => h) (Or.inl ⟨by rfl, ?_⟩) hH ?_
          rotate_left
          · intro w9 hSw
            try dsimp only at hSw
            obtain ⟨s0, s1⟩ := hSw
            go_simp
            try with_reducible rfl
          try simp only [Act.put, List.setIfInBounds_toArray, List.set_cons_zero, List.set_cons_succ]
          refine tkH 7 (v := ?_) rfl (fun _ _ _ h => h) (Or.inl ⟨by rfl, ?_⟩) hH ?_
          rotate_left
          · intro w9 hSw
            try dsimp only at hSw
            obtain ⟨s0, s1⟩ := hSw
            go_simp
            try with_reducible rfl
          try simp only [Act.put, List.setIfInBounds_toArray, List.set_cons_zero, List.set_cons_succ]
          refine wpAnyH_ready (rs := [8]) (by kernel_rfl) (by simp) ?_
          refine AllReadyH.cons rfl (fun K hK => ?_) AllReadyH.nil
          go_simp
          go_at_call 99
          refine (hsm.out).mono ?_
          rintro e9 w9 ⟨rfl, hB9⟩
          have y0 := cell_keep (w := wr.drew) z0 hB9
          have y1 := cell_keep (w := wr.drew) z1 hB9
          refine hK.out _ _ ⟨y0, y1⟩ (fun hH => ?_)
          clear hK K
          try simp only [Act.put, List.setIfInBounds_toArray, List.set_cons_zero, List.set_cons_succ]
          refine tkH 9 (v := ?_) rfl (fun _ _ _ h => h) (Or.inl ⟨by rfl, ?_⟩) hH ?_
          rotate_left
          · intro w9 hSw
            try dsimp only at hSw
            obtain ⟨s0, s1⟩ := hSw
            go_simp
            try with_reducible rfl
          try simp only [Act.put, List.setIfInBounds_toArray, List.set_cons_zero, List.set_cons_succ]
          refine wpAnyH_done (by kernel_rfl) ?_ _
          go_wp2
          go_ret
          exact ⟨ret_bool hF.out.symm, hBt'.out _ hB9⟩
      · obtain rfl : k = l.length := by omega
        have hF : Hid (decide (l = m) = true) := decide_eq_true (by have h := hE.out; rw [List.take_length] at h; rw [h]; exact List.take_of_length_le (by omega))
        go_wp2
        go_ret
        exact ⟨ret_bool hF.out.symm, hB⟩
  · have hne : ((l.length : Int) != (m.length : Int)) = true := by rw [bne_iff_ne]; omega
    have hF : Hid (decide (l = m) = false) := decide_eq_false (by intro h; exact hlm (by rw [h]))
    clear hlm
    go_enter Try.func80, Try.ntmps80
    go_wp2
    go_ret
    exact ⟨ret_bool hF.out.symm, Below.refl _ _⟩
set_option maxHeartbeats 4000000 in
set_option maxRecDepth 100000 in
theorem spec_l03Star (u : Value) (n : Nat) (F : Nat → Nat → Int) (W0 : Int) (w : World) (h0 : LstM w w.heap.size u (matF n F n)) (hn1 : 1 ≤ n) (hn2 : n ≤ 10) (hF : Hid (finM n W0 F)) (hW0 : 0 ≤ W0) (hW1 : W0 ≤ 4000000000) :
    Calls Try.prog 53 #[u] w fun e w' => ∃ v ok, e = .returned (.tuple #[v, .bool ok]) ∧ (ok = true ↔ itOk n F) ∧ OwnM w' w.heap.size v (matF n (itF n F n) n) ∧ Below w.heap.size w w' := by
  obtain ⟨A0, c0, rfl⟩ := h0.shape
  rw [matF_len] at h0 ⊢
  have hbF : Hid (bnd n F) := fun i j hi hj => by
    rcases hF.out i j hi hj with h | h
    · exact .inr h
    · exact .inl (by omega)
  have hbI := Lib.hid (fun k hk => it_bnd hF.out hW0 hW1 hn2 k hk)
  go_enter Try.func53, Try.ntmps53
  go_wp2_with (go_at_call 78; refine (spec_l02Unit n _ (by omega)).mono ?_; rintro e w1 ⟨u1, rfl, hM, hB⟩)
  go_loopw [5, 6] (fun o i wr => ∃ k : Nat, k ≤ n ∧ i = .int .i64 k ∧ OwnM wr w.heap.size o (matF n (itF n F k) n) ∧ Below w.heap.size w wr) (fun _ i _ => n - (intOf i).toNat)
  case atStart => exact ⟨0, Nat.zero_le _, rfl, hM, hB⟩
  case round =>
    clear hM hB
    obtain ⟨k, hk, rfl, hM, hB⟩ := hrel
    have hs := hB.size
    have hkn : k ≤ n + 1 := by omega
    have hbk := Lib.hid (hbI.out k hkn)
    have h0' := h0.now hB
    have hML := hM.lst
    obtain ⟨Y, cy, rfl⟩ := hM.shape
    rw [matF_len] at hM hML ⊢
    have hnext : Hid (itF n F (k + 1) = maxF unitF (mulF n F (itF n F k))) := rfl
    obtain ⟨S, hS⟩ : ∃ S, itF n F k = S := ⟨_, rfl⟩
    rw [hS] at hM hML hbk hnext
    have hSH := Lib.hid hS
    clear hS
    by_cases hlt : k < n
    · go_wp2_with (first | (go_at_call 78; refine (spec_l02Unit n _ (by omega)).mono ?_; rintro e w2 ⟨u2, rfl, hU, hB2⟩; obtain ⟨A2, c2, rfl⟩ := hU.shape; rw [matF_len] at hU ⊢) | (go_at_call 54; refine (spec_l02Multiply _ _ n F S _ (h0'.now hB2) (hML.now hB2) hbF hbk hn1 (by omega)).mono ?_; rintro e w3 ⟨u3, rfl, hP, hB3⟩; obtain ⟨A3, c3, rfl⟩ := hP.shape; rw [matF_len] at hP ⊢) | (go_at_call 79; refine (spec_l02Add _ _ n unitF (mulF n F S) _ (hU.now hB3).lst hP.lst hn1 (by omega)).mono ?_; rintro e w4 ⟨u4, rfl, hS, hB4⟩))
      go_roundw
      case rel => exact ⟨k + 1, hlt, by go_num, by rw [hnext.out]; exact hS.rebase (Nat.le_trans hs (Nat.le_trans hB2.size hB3.size)), hB.trans ((hB2.trans ((hB3.trans (hB4.mono hB3.size)).mono hB2.size)).mono hs)⟩
      case measure => simp [intOf]; omega
    · obtain rfl : k = n := by omega
      go_wp2_with (first | (go_at_call 78; refine (spec_l02Unit k _ (by omega)).mono ?_; rintro e w2 ⟨u2, rfl, hU, hB2⟩; obtain ⟨A2, c2, rfl⟩ := hU.shape; rw [matF_len] at hU ⊢) | (go_at_call 54; refine (spec_l02Multiply _ _ k F S _ (h0'.now hB2) (hML.now hB2) hbF hbk hn1 (by omega)).mono ?_; rintro e w3 ⟨u3, rfl, hP, hB3⟩; obtain ⟨A3, c3, rfl⟩ := hP.shape; rw [matF_len] at hP ⊢) | (go_at_call 79; refine (spec_l02Add _ _ k unitF (mulF k F S) _ (hU.now hB3).lst hP.lst hn1 (by omega)).mono ?_; rintro e w4 ⟨u4, rfl, hS, hB4⟩; have hMN := ((hM.now hB2).now hB3).now hB4) | (go_at_call 80; refine (spec_l02Same _ _ _ _ _ hS.lst hMN.lst).mono ?_; rintro e w5 ⟨rfl, hB5⟩))
      go_ret2
      refine ⟨_, _, rfl, ?_, by rw [hSH.out]; exact hMN.now hB5, hB.trans ((hB2.trans ((hB3.trans ((hB4.trans (hB5.mono hB4.size)).mono hB3.size)).mono hB2.size)).mono hs)⟩
      rw [decide_eq_true_iff, ← hnext.out, ← hSH.out]
      exact matF_inj
end Go.Proofs.Ytcoomogabicfnaa
