/-
  The walk of the program's star.
-/
import Derived.Test.YtcoomogabicfnaaStar
namespace Go.Proofs.Ytcoomogabicfnaa
open Go.RowKit
set_option linter.unusedVariables false
set_option linter.unusedSimpArgs false
theorem pow_W {W0 : Int} (hW0 : 0 ≤ W0) (hW1 : W0 ≤ 4000000000) (k : Nat) (hk : k ≤ 10) : (2 : Int) ^ k * W0 ≤ 5000000000000 := by
  have hp : (2 : Int) ^ k ≤ 1024 := by
    have : k = 0 ∨ k = 1 ∨ k = 2 ∨ k = 3 ∨ k = 4 ∨ k = 5 ∨ k = 6 ∨ k = 7 ∨ k = 8 ∨ k = 9 ∨ k = 10 := by omega
    rcases this with rfl | rfl | rfl | rfl | rfl | rfl | rfl | rfl | rfl | rfl | rfl <;> decide
  have h3 : (2 : Int) ^ k * W0 ≤ 1024 * 4000000000 := Int.mul_le_mul hp hW1 hW0 (by omega)
  omega
theorem fw_bnd {n : Nat} {W0 : Int} {F : Nat → Nat → Int} (h : finM n W0 F) (hW0 : 0 ≤ W0) (hW1 : W0 ≤ 4000000000) (hn : n ≤ 10) (k : Nat) (hk : k ≤ n) (i j : Nat) (hi : i < n) (hj : j < n) :
    -5000000000000 ≤ fwF F k i j ∧ fwF F k i j ≤ 5000000000000 ∨ fwF F k i j = bot := by
  have h1 := finM_fw h hW0 (by omega) hn k hk i j hi hj
  have h2 := pow_W hW0 hW1 k (by omega)
  rcases h1 with h1 | h1
  · exact .inr h1
  · exact .inl (by omega)
set_option maxHeartbeats 4000000 in
set_option maxRecDepth 100000 in
theorem impl_starOf (u : Value) (n : Nat) (F : Nat → Nat → Int) (W0 : Int) (w : World) (h0 : LstM w w.heap.size u (matF n F n)) (hn1 : 1 ≤ n) (hn2 : n ≤ 10) (hF : Hid (finM n W0 F)) (hW0 : 0 ≤ W0) (hW1 : W0 ≤ 4000000000) :
    Calls Try.prog 51 #[u] w fun e w' => ∃ v ok, e = .returned (.tuple #[v, .bool ok]) ∧ (ok = true ↔ fwOk n F) ∧ (ok = true → OwnM w' w.heap.size v (matF n (fwF F n) n)) ∧ Below w.heap.size w w' := by
  obtain ⟨A0, c0, rfl⟩ := h0.shape
  rw [matF_len] at h0 ⊢
  have hbn := Lib.hid (fun k hk i j hi hj => fw_bnd hF.out hW0 hW1 hn2 k hk i j hi hj)
  go_enter Try.func51, Try.ntmps51
  go_wp2_with (first | (go_at_call 75; refine (impl_unitMatrix n _ (by omega)).mono ?_; rintro e w1 ⟨u1, rfl, hU, hB1⟩; obtain ⟨A1, c1, rfl⟩ := hU.shape; rw [matF_len] at hU ⊢) | (go_at_call 41; refine (impl_addMatrices _ _ n F unitF _ (h0.now hB1) hU.lst hn1 (by omega)).mono ?_; rintro e w2 ⟨u2, rfl, hM, hB2⟩; obtain ⟨A2, c2, rfl⟩ := hM.shape; rw [matF_len] at hM ⊢))
  replace hM := hM.rebase hB1.size
  have hB := hB1.trans (hB2.mono hB1.size)
  clear hU hB1 hB2
  go_loopw [5, 6, 7, 16] (fun _ _ _ i wr => ∃ k : Nat, k ≤ n ∧ i = .int .i64 k ∧ Hid (∀ q, q < k → fwF F q q q ≤ 0) ∧ OwnM wr w.heap.size (.slice A2 n c2) (matF n (fwF F k) n) ∧ Below w.heap.size w wr) (fun _ _ _ i _ => n - (intOf i).toNat)
  case atStart => exact ⟨0, Nat.zero_le _, rfl, fun q hq => absurd hq (by omega), hM, hB⟩
  case round =>
    clear hM hB
    obtain ⟨k, hk, rfl, hQ, hM, hB⟩ := hrel
    by_cases hlt : k < n
    · have hkl : k < (matF n (fwF F k) n).length := by rw [matF_len]; exact hlt
      obtain ⟨g, cu, r, hu, hgb, hgl, hfz, hci, hri, _, _, _⟩ := hM.row k hkl
      rw [matF_len] at hu
      cases hu
      rw [matF_get] at hri
      obtain ⟨bi, ci, hv, hbiB, _, _⟩ := hri.at_ intCell_len k (by simpa using hlt)
      rw [List.length_map, List.length_range] at hv
      rw [hv] at hci hri
      obtain ⟨_, _, _, hkk⟩ := own_ints_at hri k (by simpa using hlt)
      rw [List.getElem_map, List.getElem_range] at hkk
      have hd0 := fw_diag (n := n) F k k
      obtain ⟨S, hS⟩ : ∃ S, fwF F k = S := ⟨_, rfl⟩
      by_cases hpos : 0 < fwF F k k k
      · have hno : Hid (¬ fwOk n F) := fun h => by have := h.1 k hlt; omega
        rw [hS] at hkk hpos
        clear hS hri hM hv hd0
        go_wp2
        go_ret2
        exact ⟨_, false, rfl, ⟨fun h => (by cases h), fun h => absurd h hno.out⟩, fun h => (by cases h), hB⟩
      · have hz : fwF F k k k = 0 := by omega
        have hQ' : Hid (∀ q, q < k + 1 → fwF F q q q ≤ 0) := fun q hq => by
          by_cases e : q = k
          · subst e; omega
          · exact hQ.out q (by omega)
        have hbk := Lib.hid (fun i j hi hj => hbn.out k hk i j hi hj)
        have hnext : Hid (fwF F (k + 1) = elimF k S) := by show fwF F (k + 1) = _; rw [← hS]; rfl
        rw [hS] at hkk hz hM hbk
        clear hS hri hd0 hpos hQ
        rw [hz] at hkk
        have hz' := Lib.hid hz
        clear hz hv
        go_wp2
        clear hci hkk hfz
        obtain ⟨wo, rfl⟩ : ∃ wo : World, wo = wr := ⟨_, rfl⟩
        go_loopw [6, 7, 29] (fun _ _ i wr => ∃ i' : Nat, i' ≤ n ∧ i = .int .i64 i' ∧ OwnM wr w.heap.size (.slice (some ⟨g, 0, none⟩) n c2) (matF n (elimP k S i' 0) n) ∧ Below w.heap.size w wr) (fun _ _ i _ => n - (intOf i).toNat)
        case atStart => exact ⟨0, Nat.zero_le _, rfl, by rw [elimP_zero]; exact hM, hB⟩
        case round =>
          clear hM hB
          obtain ⟨i, hi, rfl, hM, hB⟩ := hrel
          by_cases hlt2 : i < n
          · go_wp2
            obtain ⟨wp, rfl⟩ : ∃ wp : World, wp = wr := ⟨_, rfl⟩
            go_loopw [7, 34] (fun _ jv wr => ∃ j : Nat, j ≤ n ∧ jv = .int .i64 j ∧ OwnM wr w.heap.size (.slice (some ⟨g, 0, none⟩) n c2) (matF n (elimP k S i j) n) ∧ Below w.heap.size w wr) (fun _ jv _ => n - (intOf jv).toNat)
            case atStart => exact ⟨0, Nat.zero_le _, rfl, hM, hB⟩
            case round =>
              clear hM hB
              obtain ⟨j, hj, rfl, hM, hB⟩ := hrel
              by_cases hlt3 : j < n
              · have hil : i < (matF n (elimP k S i j) n).length := by rw [matF_len]; exact hlt2
                have hkl : k < (matF n (elimP k S i j) n).length := by rw [matF_len]; exact hlt
                obtain ⟨g', cu, r, hu, hgb', hgl', hfz, hci, hri, hne, hset, _⟩ := hM.row i hil
                rw [matF_len] at hu
                obtain rfl : g = g' := by injection hu with hu _ _; injection hu with hu; injection hu
                clear hu
                rw [matF_get] at hri
                obtain ⟨bi, ci, hv, hbiB, _, _⟩ := hri.at_ intCell_len j (by simpa using hlt3)
                rw [List.length_map, List.length_range] at hv
                rw [hv] at hci hri hset
                obtain ⟨_, _, hfi, hij⟩ := own_ints_at hri j (by simpa using hlt3)
                obtain ⟨_, _, _, hik⟩ := own_ints_at hri k (by simpa using hlt)
                rw [List.getElem_map, List.getElem_range, elimP_at] at hij
                rw [List.getElem_map, List.getElem_range, elimP_col hz'.out] at hik
                have hset' := Lib.hid hset
                clear hset hv hne
                obtain ⟨g', cu', r', hu, _, _, _, hck, hrk, _, _, _⟩ := hM.row k hkl
                rw [matF_len] at hu
                obtain rfl : g = g' := by injection hu with hu _ _; injection hu with hu; injection hu
                clear hu
                rw [matF_get] at hrk
                obtain ⟨bk, ck, hv, _, _, _⟩ := hrk.at_ intCell_len j (by simpa using hlt3)
                rw [List.length_map, List.length_range] at hv
                rw [hv] at hck hrk
                obtain ⟨_, _, _, hkj⟩ := own_ints_at hrk j (by simpa using hlt3)
                rw [List.getElem_map, List.getElem_range, elimP_row hz'.out] at hkj
                clear hv hrk hgb' hgl'
                have htm := Lib.hid (fun W => impl_times (S i k) (S k j) W (hbk.out i k hlt2 hlt) (hbk.out k j hlt hlt3))
                have hval : Hid (elimF k S i j = if S i j < tms (S i k) (S k j) then tms (S i k) (S k j) else S i j) := max_if _ _
                have hBd : Below wr.heap.size wr wr.drew := Below.drew (Below.refl _ wr)
                have z0 := cell_keep hci hBd
                have z1 := cell_keep hck hBd
                have z2 := cell_keep hij hBd
                have z3 := cell_keep hik hBd
                have z4 := cell_keep hkj hBd
                have i1 : (0 : Int) ≤ (i : Int) := by omega
                have i2 : (i : Int) < (n : Int) := by omega
                have i3 : (0 : Int) ≤ (j : Int) := by omega
                have i4 : (j : Int) < (n : Int) := by omega
                have i5 : (0 : Int) ≤ (k : Int) := by omega
                have i6 : (k : Int) < (n : Int) := by omega
                have hMn := hset'.out _ _ ((hri.now hBd).set1 j (by simpa using hlt3) (if S i j < tms (S i k) (S k j) then tms (S i k) (S k j) else S i j)) (grown_set (p := ⟨bi, j, none⟩) (grown_of_below hBd) rfl _)
                rw [matF_upd, ← hval.out, elimP_step] at hMn
                have hBn := (hB.trans (hBd.mono hB.size)).setCell (p := ⟨bi, j, none⟩) hbiB (.int .i64 (elimF k S i j))
                rw [hval.out] at hMn hBn
                have hMn' := Lib.hid hMn
                have hBn' := Lib.hid hBn
                clear hMn hBn hM hB hri hset' hij hik hkj hci hck hval hbk
                go_wp2_with fail
                refine wp_region_E (fun w' => w'.cell? ⟨g, i, none⟩ = some (.slice (some ⟨bi, 0, none⟩) n ci) ∧ w'.cell? ⟨g, k, none⟩ = some (.slice (some ⟨bk, 0, none⟩) n ck) ∧ w'.cell? ⟨bi, j, none⟩ = some (.int .i64 (S i j)) ∧ w'.cell? ⟨bi, k, none⟩ = some (.int .i64 (S i k)) ∧ w'.cell? ⟨bk, j, none⟩ = some (.int .i64 (S k j))) 29 (by kernel_rfl) ?_
                have hS0 : (fun w' : World => w'.cell? ⟨g, i, none⟩ = some (.slice (some ⟨bi, 0, none⟩) n ci) ∧ w'.cell? ⟨g, k, none⟩ = some (.slice (some ⟨bk, 0, none⟩) n ck) ∧ w'.cell? ⟨bi, j, none⟩ = some (.int .i64 (S i j)) ∧ w'.cell? ⟨bi, k, none⟩ = some (.int .i64 (S i k)) ∧ w'.cell? ⟨bk, j, none⟩ = some (.int .i64 (S k j))) wr.drew := ⟨z0, z1, z2, z3, z4⟩
                refine wpAnyE_take (i := 0) (v := ?_) rfl (by kernel_rfl) (by kernel_rfl) (by kernel_rfl) (by kernel_rfl) (by kernel_rfl) (fun _ _ _ h => h) hS0 (by rfl) ?_ ?_
                rotate_left
                · intro w9 hSw
                  try dsimp only at hSw
                  obtain ⟨s0, s1, s2, s3, s4⟩ := hSw
                  go_simp
                  try with_reducible rfl
                try simp only [Act.put, List.setIfInBounds_toArray, List.set_cons_zero, List.set_cons_succ]
                refine wpAnyE_take (i := 1) (v := ?_) rfl (by kernel_rfl) (by kernel_rfl) (by kernel_rfl) (by kernel_rfl) (by kernel_rfl) (fun _ _ _ h => h) hS0 (by rfl) ?_ ?_
                rotate_left
                · intro w9 hSw
                  try dsimp only at hSw
                  obtain ⟨s0, s1, s2, s3, s4⟩ := hSw
                  go_simp
                  try with_reducible rfl
                try simp only [Act.put, List.setIfInBounds_toArray, List.set_cons_zero, List.set_cons_succ]
                refine wpAnyE_take (i := 2) (v := ?_) rfl (by kernel_rfl) (by kernel_rfl) (by kernel_rfl) (by kernel_rfl) (by kernel_rfl) (fun _ _ _ h => h) hS0 (by rfl) ?_ ?_
                rotate_left
                · intro w9 hSw
                  try dsimp only at hSw
                  obtain ⟨s0, s1, s2, s3, s4⟩ := hSw
                  go_simp
                  try with_reducible rfl
                try simp only [Act.put, List.setIfInBounds_toArray, List.set_cons_zero, List.set_cons_succ]
                refine wpAnyE_take (i := 3) (v := ?_) rfl (by kernel_rfl) (by kernel_rfl) (by kernel_rfl) (by kernel_rfl) (by kernel_rfl) (fun _ _ _ h => h) hS0 (by rfl) ?_ ?_
                rotate_left
                · intro w9 hSw
                  try dsimp only at hSw
                  obtain ⟨s0, s1, s2, s3, s4⟩ := hSw
                  go_simp
                  try with_reducible rfl
                try simp only [Act.put, List.setIfInBounds_toArray, List.set_cons_zero, List.set_cons_succ]
                refine wpAnyE_take (i := 4) (v := ?_) rfl (by kernel_rfl) (by kernel_rfl) (by kernel_rfl) (by kernel_rfl) (by kernel_rfl) (fun _ _ _ h => h) hS0 (by rfl) ?_ ?_
                rotate_left
                · intro w9 hSw
                  try dsimp only at hSw
                  obtain ⟨s0, s1, s2, s3, s4⟩ := hSw
                  go_simp
                  try with_reducible rfl
                try simp only [Act.put, List.setIfInBounds_toArray, List.set_cons_zero, List.set_cons_succ]
                refine wpAnyE_take (i := 5) (v := ?_) rfl (by kernel_rfl) (by kernel_rfl) (by kernel_rfl) (by kernel_rfl) (by kernel_rfl) (fun _ _ _ h => h) hS0 (by rfl) ?_ ?_
                rotate_left
                · intro w9 hSw
                  try dsimp only at hSw
                  obtain ⟨s0, s1, s2, s3, s4⟩ := hSw
                  go_simp
                  try with_reducible rfl
                try simp only [Act.put, List.setIfInBounds_toArray, List.set_cons_zero, List.set_cons_succ]
                refine wpAnyE_take (i := 6) (v := ?_) rfl (by kernel_rfl) (by kernel_rfl) (by kernel_rfl) (by kernel_rfl) (by kernel_rfl) (fun _ _ _ h => h) hS0 (by rfl) ?_ ?_
                rotate_left
                · intro w9 hSw
                  try dsimp only at hSw
                  obtain ⟨s0, s1, s2, s3, s4⟩ := hSw
                  go_simp
                  try with_reducible rfl
                try simp only [Act.put, List.setIfInBounds_toArray, List.set_cons_zero, List.set_cons_succ]
                refine wpAnyE_take (i := 7) (v := ?_) rfl (by kernel_rfl) (by kernel_rfl) (by kernel_rfl) (by kernel_rfl) (by kernel_rfl) (fun _ _ _ h => h) hS0 (by rfl) ?_ ?_
                rotate_left
                · intro w9 hSw
                  try dsimp only at hSw
                  obtain ⟨s0, s1, s2, s3, s4⟩ := hSw
                  go_simp
                  try with_reducible rfl
                try simp only [Act.put, List.setIfInBounds_toArray, List.set_cons_zero, List.set_cons_succ]
                refine wpAnyE_take (i := 8) (v := ?_) rfl (by kernel_rfl) (by kernel_rfl) (by kernel_rfl) (by kernel_rfl) (by kernel_rfl) (fun _ _ _ h => h) hS0 (by rfl) ?_ ?_
                rotate_left
                · intro w9 hSw
                  try dsimp only at hSw
                  obtain ⟨s0, s1, s2, s3, s4⟩ := hSw
                  go_simp
                  try with_reducible rfl
                try simp only [Act.put, List.setIfInBounds_toArray, List.set_cons_zero, List.set_cons_succ]
                refine wpAnyE_take (i := 9) (v := ?_) rfl (by kernel_rfl) (by kernel_rfl) (by kernel_rfl) (by kernel_rfl) (by kernel_rfl) (fun _ _ _ h => h) hS0 (by rfl) ?_ ?_
                rotate_left
                · intro w9 hSw
                  try dsimp only at hSw
                  obtain ⟨s0, s1, s2, s3, s4⟩ := hSw
                  go_simp
                  try with_reducible rfl
                try simp only [Act.put, List.setIfInBounds_toArray, List.set_cons_zero, List.set_cons_succ]
                refine wpAnyE_take (i := 10) (v := ?_) rfl (by kernel_rfl) (by kernel_rfl) (by kernel_rfl) (by kernel_rfl) (by kernel_rfl) (fun _ _ _ h => h) hS0 (by rfl) ?_ ?_
                rotate_left
                · intro w9 hSw
                  try dsimp only at hSw
                  obtain ⟨s0, s1, s2, s3, s4⟩ := hSw
                  go_simp
                  try with_reducible rfl
                try simp only [Act.put, List.setIfInBounds_toArray, List.set_cons_zero, List.set_cons_succ]
                refine wpAnyE_take (i := 11) (v := ?_) rfl (by kernel_rfl) (by kernel_rfl) (by kernel_rfl) (by kernel_rfl) (by kernel_rfl) (fun _ _ _ h => h) hS0 (by rfl) ?_ ?_
                rotate_left
                · intro w9 hSw
                  try dsimp only at hSw
                  obtain ⟨s0, s1, s2, s3, s4⟩ := hSw
                  go_simp
                  try with_reducible rfl
                try simp only [Act.put, List.setIfInBounds_toArray, List.set_cons_zero, List.set_cons_succ]
                refine wpAnyE_take (i := 12) (v := ?_) rfl (by kernel_rfl) (by kernel_rfl) (by kernel_rfl) (by kernel_rfl) (by kernel_rfl) (fun _ _ _ h => h) hS0 (by rfl) ?_ ?_
                rotate_left
                · intro w9 hSw
                  try dsimp only at hSw
                  obtain ⟨s0, s1, s2, s3, s4⟩ := hSw
                  go_simp
                  try with_reducible rfl
                try simp only [Act.put, List.setIfInBounds_toArray, List.set_cons_zero, List.set_cons_succ]
                refine wpAnyE_take (i := 13) (v := ?_) rfl (by kernel_rfl) (by kernel_rfl) (by kernel_rfl) (by kernel_rfl) (by kernel_rfl) (fun _ _ _ h => h) hS0 (by rfl) ?_ ?_
                rotate_left
                · intro w9 hSw
                  try dsimp only at hSw
                  obtain ⟨s0, s1, s2, s3, s4⟩ := hSw
                  go_simp
                  try with_reducible rfl
                try simp only [Act.put, List.setIfInBounds_toArray, List.set_cons_zero, List.set_cons_succ]
                refine wpAnyE_take (i := 14) (v := ?_) rfl (by kernel_rfl) (by kernel_rfl) (by kernel_rfl) (by kernel_rfl) (by kernel_rfl) (fun _ _ _ h => h) hS0 (by rfl) ?_ ?_
                rotate_left
                · intro w9 hSw
                  try dsimp only at hSw
                  obtain ⟨s0, s1, s2, s3, s4⟩ := hSw
                  go_simp
                  try with_reducible rfl
                try simp only [Act.put, List.setIfInBounds_toArray, List.set_cons_zero, List.set_cons_succ]
                refine wpAnyE_take (i := 15) (v := ?_) rfl (by kernel_rfl) (by kernel_rfl) (by kernel_rfl) (by kernel_rfl) (by kernel_rfl) (fun _ _ _ h => h) hS0 (by rfl) ?_ ?_
                rotate_left
                · intro w9 hSw
                  try dsimp only at hSw
                  obtain ⟨s0, s1, s2, s3, s4⟩ := hSw
                  go_simp
                  try with_reducible rfl
                try simp only [Act.put, List.setIfInBounds_toArray, List.set_cons_zero, List.set_cons_succ]
                refine wpAnyE_take (i := 16) (v := ?_) rfl (by kernel_rfl) (by kernel_rfl) (by kernel_rfl) (by kernel_rfl) (by kernel_rfl) (fun _ _ _ h => h) hS0 (by rfl) ?_ ?_
                rotate_left
                · intro w9 hSw
                  try dsimp only at hSw
                  obtain ⟨s0, s1, s2, s3, s4⟩ := hSw
                  go_simp
                  try with_reducible rfl
                try simp only [Act.put, List.setIfInBounds_toArray, List.set_cons_zero, List.set_cons_succ]
                refine wpAnyE_take (i := 17) (v := ?_) rfl (by kernel_rfl) (by kernel_rfl) (by kernel_rfl) (by kernel_rfl) (by kernel_rfl) (fun _ _ _ h => h) hS0 (by rfl) ?_ ?_
                rotate_left
                · intro w9 hSw
                  try dsimp only at hSw
                  obtain ⟨s0, s1, s2, s3, s4⟩ := hSw
                  go_simp
                  try with_reducible rfl
                try simp only [Act.put, List.setIfInBounds_toArray, List.set_cons_zero, List.set_cons_succ]
                refine wpAnyE_take (i := 18) (v := ?_) rfl (by kernel_rfl) (by kernel_rfl) (by kernel_rfl) (by kernel_rfl) (by kernel_rfl) (fun _ _ _ h => h) hS0 (by rfl) ?_ ?_
                rotate_left
                · intro w9 hSw
                  try dsimp only at hSw
                  obtain ⟨s0, s1, s2, s3, s4⟩ := hSw
                  go_simp
                  try with_reducible rfl
                try simp only [Act.put, List.setIfInBounds_toArray, List.set_cons_zero, List.set_cons_succ]
                refine wpAnyE_take (i := 19) (v := ?_) rfl (by kernel_rfl) (by kernel_rfl) (by kernel_rfl) (by kernel_rfl) (by kernel_rfl) (fun _ _ _ h => h) hS0 (by rfl) ?_ ?_
                rotate_left
                · intro w9 hSw
                  try dsimp only at hSw
                  obtain ⟨s0, s1, s2, s3, s4⟩ := hSw
                  go_simp
                  try with_reducible rfl
                try simp only [Act.put, List.setIfInBounds_toArray, List.set_cons_zero, List.set_cons_succ]
                refine wpAnyE_take (i := 20) (v := ?_) rfl (by kernel_rfl) (by kernel_rfl) (by kernel_rfl) (by kernel_rfl) (by kernel_rfl) (fun _ _ _ h => h) hS0 (by rfl) ?_ ?_
                rotate_left
                · intro w9 hSw
                  try dsimp only at hSw
                  obtain ⟨s0, s1, s2, s3, s4⟩ := hSw
                  go_simp
                  try with_reducible rfl
                try simp only [Act.put, List.setIfInBounds_toArray, List.set_cons_zero, List.set_cons_succ]
                refine wpAnyE_take (i := 21) (v := ?_) rfl (by kernel_rfl) (by kernel_rfl) (by kernel_rfl) (by kernel_rfl) (by kernel_rfl) (fun _ _ _ h => h) hS0 (by rfl) ?_ ?_
                rotate_left
                · intro w9 hSw
                  try dsimp only at hSw
                  obtain ⟨s0, s1, s2, s3, s4⟩ := hSw
                  go_simp
                  try with_reducible rfl
                try simp only [Act.put, List.setIfInBounds_toArray, List.set_cons_zero, List.set_cons_succ]
                refine wpAnyE_take (i := 22) (v := ?_) rfl (by kernel_rfl) (by kernel_rfl) (by kernel_rfl) (by kernel_rfl) (by kernel_rfl) (fun _ _ _ h => h) hS0 (by rfl) ?_ ?_
                rotate_left
                · intro w9 hSw
                  try dsimp only at hSw
                  obtain ⟨s0, s1, s2, s3, s4⟩ := hSw
                  go_simp
                  try with_reducible rfl
                try simp only [Act.put, List.setIfInBounds_toArray, List.set_cons_zero, List.set_cons_succ]
                refine wpAnyE_take (i := 23) (v := ?_) rfl (by kernel_rfl) (by kernel_rfl) (by kernel_rfl) (by kernel_rfl) (by kernel_rfl) (fun _ _ _ h => h) hS0 (by rfl) ?_ ?_
                rotate_left
                · intro w9 hSw
                  try dsimp only at hSw
                  obtain ⟨s0, s1, s2, s3, s4⟩ := hSw
                  go_simp
                  try with_reducible rfl
                try simp only [Act.put, List.setIfInBounds_toArray, List.set_cons_zero, List.set_cons_succ]
                refine wpAnyE_take (i := 24) (v := ?_) rfl (by kernel_rfl) (by kernel_rfl) (by kernel_rfl) (by kernel_rfl) (by kernel_rfl) (fun _ _ _ h => h) hS0 (by rfl) ?_ ?_
                rotate_left
                · intro w9 hSw
                  try dsimp only at hSw
                  obtain ⟨s0, s1, s2, s3, s4⟩ := hSw
                  go_simp
                  try with_reducible rfl
                try simp only [Act.put, List.setIfInBounds_toArray, List.set_cons_zero, List.set_cons_succ]
                refine wpAnyE_take (i := 25) (v := ?_) rfl (by kernel_rfl) (by kernel_rfl) (by kernel_rfl) (by kernel_rfl) (by kernel_rfl) (fun _ _ _ h => h) hS0 (by rfl) ?_ ?_
                rotate_left
                · intro w9 hSw
                  try dsimp only at hSw
                  obtain ⟨s0, s1, s2, s3, s4⟩ := hSw
                  go_simp
                  try with_reducible rfl
                try simp only [Act.put, List.setIfInBounds_toArray, List.set_cons_zero, List.set_cons_succ]
                refine wpAnyE_one (i := 26) rfl (by kernel_rfl) (fun K hK => ?_)
                go_simp
                go_at_call 62
                refine (htm.out _).mono ?_
                rintro e9 w9 ⟨rfl, rfl⟩
                refine hK.out _ _ (fun _ => ⟨z0, z1, z2, z3, z4⟩) ?_
                clear hK K
                try simp only [Act.put, List.setIfInBounds_toArray, List.set_cons_zero, List.set_cons_succ]
                refine wpAnyE_one (i := 27) rfl (by kernel_rfl) (fun K hK => ?_)
                go_simp
                refine hK.out _ _ (fun _ => ⟨z0, z1, z2, z3, z4⟩) ?_
                clear hK K
                try simp only [Act.put, List.setIfInBounds_toArray, List.set_cons_zero, List.set_cons_succ]
                refine wpAnyE_one (i := 28) rfl (by kernel_rfl) (fun K hK => ?_)
                go_simp
                refine hK.out _ _ (fun _ => ⟨z0, z1, z2, z3, z4⟩) ?_
                clear hK K
                try simp only [Act.put, List.setIfInBounds_toArray, List.set_cons_zero, List.set_cons_succ]
                refine wpAnyE_one (i := 29) rfl (by kernel_rfl) (fun K hK => ?_)
                go_simp
                refine hK.out _ _ (fun h => absurd rfl h) ?_
                clear hK K
                try simp only [Act.put, List.setIfInBounds_toArray, List.set_cons_zero, List.set_cons_succ]
                refine wpAnyE_done (by kernel_rfl) ?_
                clear hS0 z0 z1 z2 z3 z4 htm
                go_wp2
                go_roundw
                case rel => exact ⟨j + 1, hlt3, by go_num, hMn'.out, hBn'.out⟩
                case measure => simp [intOf]; omega
              · obtain rfl : j = n := by omega
                rw [elimP_next] at hM
                go_wp2
                go_roundw
                case rel => exact ⟨i + 1, hlt2, by go_num, hM, hB⟩
                case measure => simp [intOf]; omega
          · obtain rfl : i = n := by omega
            rw [elimP_done, ← hnext.out] at hM
            go_wp2
            go_roundw
            case rel => exact ⟨k + 1, hlt, by go_num, hQ', hM, hB⟩
            case measure => simp [intOf]; omega
    · obtain rfl : k = n := by omega
      go_wp2
      obtain ⟨wo, rfl⟩ : ∃ wo : World, wo = wr := ⟨_, rfl⟩
      go_loopw [8, 71] (fun _ i wr => ∃ i' : Nat, i' ≤ k ∧ i = .int .i64 i' ∧ Hid (∀ q, q < i' → fwF F k q q ≤ 0) ∧ wo = wr) (fun _ i _ => k - (intOf i).toNat)
      case atStart => exact ⟨0, Nat.zero_le _, rfl, fun q hq => absurd hq (by omega), rfl⟩
      case round =>
        obtain ⟨i, hi, rfl, hQ2, rfl⟩ := hrel
        by_cases hlt2 : i < k
        · have hil : i < (matF k (fwF F k) k).length := by rw [matF_len]; exact hlt2
          obtain ⟨g, cu, r, hu, hgb, hgl, hfz, hci, hri, _, _, _⟩ := hM.row i hil
          rw [matF_len] at hu
          cases hu
          rw [matF_get] at hri
          obtain ⟨bi, ci, hv, hbiB, _, _⟩ := hri.at_ intCell_len i (by simpa using hlt2)
          rw [List.length_map, List.length_range] at hv
          rw [hv] at hci hri
          obtain ⟨_, _, _, hkk⟩ := own_ints_at hri i (by simpa using hlt2)
          rw [List.getElem_map, List.getElem_range] at hkk
          clear hri hv
          by_cases hpos : 0 < fwF F k i i
          · have hno : Hid (¬ fwOk k F) := fun h => by have := h.2 i hlt2; omega
            generalize fwF F k i i = q at *
            clear hM
            go_wp2
            go_ret2
            exact ⟨_, false, rfl, ⟨fun h => (by cases h), fun h => absurd h hno.out⟩, fun h => (by cases h), hB⟩
          · have hQ' : Hid (∀ q, q < i + 1 → fwF F k q q ≤ 0) := fun q hq => by
              by_cases e : q = i
              · subst e; omega
              · exact hQ2.out q (by omega)
            generalize fwF F k i i = q at *
            go_wp2
            go_roundw
            case rel => exact ⟨i + 1, hlt2, by go_num, hQ', by first | rfl | trivial⟩
            case measure => simp [intOf]; omega
        · obtain rfl : i = k := by omega
          go_wp2
          go_ret2
          exact ⟨_, true, rfl, ⟨fun _ => ⟨hQ.out, hQ2.out⟩, fun _ => rfl⟩, fun _ => hM, hB⟩
end Go.Proofs.Ytcoomogabicfnaa
