/-
  The walks of the reference's star, product and the like.
-/
import Derived.Test.YtcoomogabicfnaaStarD
import Derived.Test.YtcoomogabicfnaaCopy
namespace Go.Proofs.Ytcoomogabicfnaa
open Go.RowKit
set_option linter.unusedVariables false
set_option linter.unusedSimpArgs false
/-- Done up to a place, row by row. -/
def partP (H F : Nat → Nat → Int) (i j : Nat) : Nat → Nat → Int := fun a b => if a < i ∨ (a = i ∧ b < j) then H a b else F a b
theorem partP_at (H F : Nat → Nat → Int) (i j : Nat) : partP H F i j i j = F i j := by
  unfold partP
  rw [if_neg (by omega)]
theorem partP_zero (H F : Nat → Nat → Int) : partP H F 0 0 = F := by
  funext a b
  unfold partP
  rw [if_neg (by omega)]
theorem partP_step (H F : Nat → Nat → Int) (i j : Nat) : updF (partP H F i j) i j (H i j) = partP H F i (j + 1) := by
  funext a b
  unfold updF partP
  by_cases h : a = i ∧ b = j
  · obtain ⟨rfl, rfl⟩ := h
    rw [if_pos ⟨rfl, rfl⟩, if_pos (by omega)]
  · rw [if_neg h]
    by_cases h2 : a < i ∨ a = i ∧ b < j
    · rw [if_pos h2, if_pos (by omega)]
    · rw [if_neg h2, if_neg (by omega)]
theorem partP_next (H F : Nat → Nat → Int) (n i m : Nat) : matF n (partP H F i n) m = matF n (partP H F (i + 1) 0) m := by
  refine matF_congr fun a b ha hb => ?_
  unfold partP
  by_cases h : a < i ∨ a = i ∧ b < n
  · rw [if_pos h, if_pos (by omega)]
  · rw [if_neg h, if_neg (by omega)]
theorem partP_done (H F : Nat → Nat → Int) (n : Nat) : matF n (partP H F n 0) n = matF n H n := by
  refine matF_congr fun a b ha hb => ?_
  unfold partP
  rw [if_pos (by omega)]
/-- The diagonal, up to a row. -/
def diagP (i : Nat) : Nat → Nat → Int := fun a b => if a = b ∧ a < i then 0 else bot
theorem diagP_zero : diagP 0 = fun _ _ => bot := by
  funext a b
  unfold diagP
  rw [if_neg (by omega)]
theorem diagP_step (i : Nat) : updF (diagP i) i i 0 = diagP (i + 1) := by
  funext a b
  unfold updF diagP
  by_cases h : a = i ∧ b = i
  · rw [if_pos h, if_pos (by omega)]
  · rw [if_neg h]
    by_cases h2 : a = b ∧ a < i
    · rw [if_pos h2, if_pos (by omega)]
    · rw [if_neg h2, if_neg (by omega)]
theorem diagP_done (n : Nat) : matF n (diagP n) n = matF n unitF n := by
  refine matF_congr fun a b ha hb => ?_
  unfold diagP unitF
  by_cases h : a = b
  · rw [if_pos ⟨h, ha⟩, if_pos h]
  · rw [if_neg (by omega), if_neg h]
def multP (n : Nat) (F G : Nat → Nat → Int) (i j k : Nat) : Nat → Nat → Int := updF (partP (mulF n F G) (fun _ _ => bot) i j) i j (sumT k fun k => tms (F i k) (G k j))
theorem updF_same (F : Nat → Nat → Int) (i j : Nat) : updF F i j (F i j) = F := by
  funext a b
  unfold updF
  by_cases h : a = i ∧ b = j
  · rw [if_pos h, h.1, h.2]
  · rw [if_neg h]
theorem updF_updF (F : Nat → Nat → Int) (i j : Nat) (x y : Int) : updF (updF F i j x) i j y = updF F i j y := by
  funext a b
  unfold updF
  by_cases h : a = i ∧ b = j
  · rw [if_pos h, if_pos h]
  · rw [if_neg h, if_neg h, if_neg h]
theorem updF_at (F : Nat → Nat → Int) (i j : Nat) (x : Int) : updF F i j x i j = x := by
  unfold updF
  rw [if_pos ⟨rfl, rfl⟩]
theorem multP_zero (n : Nat) (F G : Nat → Nat → Int) (i j : Nat) : multP n F G i j 0 = partP (mulF n F G) (fun _ _ => bot) i j := by
  unfold multP
  have h := updF_same (partP (mulF n F G) (fun _ _ => bot) i j) i j
  rw [partP_at] at h
  exact h
theorem multP_done (n : Nat) (F G : Nat → Nat → Int) (i j : Nat) : multP n F G i j n = partP (mulF n F G) (fun _ _ => bot) i (j + 1) := by
  unfold multP
  exact partP_step (mulF n F G) _ i j
set_option maxHeartbeats 400000 in
set_option maxRecDepth 100000 in
theorem spec_l01Times (a b : Int) (w : World) (ha : -5000000000000 ≤ a ∧ a ≤ 5000000000000 ∨ a = bot) (hb : -5000000000000 ≤ b ∧ b ≤ 5000000000000 ∨ b = bot) :
    Calls Try.prog 81 #[.int .i64 a, .int .i64 b] w fun e w' => e = .returned (.int .i64 (tms a b)) ∧ w = w' := by
  by_cases h1 : a = bot
  · have hE : Hid (tms a b = -1000000000000000) := by show _ = _; unfold tms; rw [if_pos (.inl h1)]; rfl
    have hq : (a == -1000000000000000) = true := by simpa [bot] using h1
    clear h1 ha hb
    go_enter Try.func81, Try.ntmps81
    go_wp2
    go_ret
    exact ⟨ret_int hE.out.symm, rfl⟩
  · have hq : (a == -1000000000000000) = false := by simpa [bot] using h1
    by_cases h2 : b = bot
    · have hE : Hid (tms a b = -1000000000000000) := by show _ = _; unfold tms; rw [if_pos (.inr h2)]; rfl
      have hq2 : (b == -1000000000000000) = true := by simpa [bot] using h2
      clear h1 h2 ha hb
      go_enter Try.func81, Try.ntmps81
      go_wp2
      go_ret
      exact ⟨ret_int hE.out.symm, rfl⟩
    · have hE : Hid (tms a b = a + b) := by show _ = _; unfold tms; rw [if_neg (by simp [h1, h2])]
      have hq2 : (b == -1000000000000000) = false := by simpa [bot] using h2
      have hsm : IntKind.i64.wrap (a + b) = a + b := IntWalk.i64_in _ (by rcases ha with ha | ha <;> rcases hb with hb | hb <;> first | omega | contradiction)
      clear h1 h2 ha hb
      go_enter Try.func81, Try.ntmps81
      go_wp2
      go_ret
      exact ⟨ret_int hE.out.symm, rfl⟩
set_option maxHeartbeats 4000000 in
set_option maxRecDepth 100000 in
theorem spec_l02Unit (n : Nat) (w : World) (hn : n ≤ 1000) :
    Calls Try.prog 78 #[.int .i64 n] w (RetM w (matF n unitF n)) := by
  go_enter Try.func78, Try.ntmps78
  go_wp2_with (go_at_call 27; refine (l02Bottom n n _ hn hn).mono ?_; rintro e w1 ⟨u, rfl, hM, hB⟩; obtain ⟨A1, c1, rfl⟩ := hM.shape; rw [matF_len] at hM ⊢)
  go_loopw [4] (fun i wr => ∃ k : Nat, k ≤ n ∧ i = .int .i64 k ∧ OwnM wr w.heap.size (.slice A1 n c1) (matF n (diagP k) n) ∧ Below w.heap.size w wr) (fun i _ => n - (intOf i).toNat)
  case atStart => exact ⟨0, Nat.zero_le _, rfl, by rw [diagP_zero]; exact hM, hB⟩
  case round =>
    clear hM hB
    obtain ⟨k, hk, rfl, hM, hB⟩ := hrel
    by_cases hlt : k < n
    · have hkl : k < (matF n (diagP k) n).length := by rw [matF_len]; exact hlt
      obtain ⟨g, cu, r, hu, hgb, hgl, hfz, hci, hri, _, hset, _⟩ := hM.row k hkl
      rw [matF_len] at hu
      cases hu
      rw [matF_get] at hri
      obtain ⟨bi, ci, hv, hbiB, _, _⟩ := hri.at_ intCell_len k (by simpa using hlt)
      rw [List.length_map, List.length_range] at hv
      rw [hv] at hci hri hset
      obtain ⟨_, hbl, hfi, _⟩ := own_ints_at hri k (by simpa using hlt)
      have hMn := hset _ _ (hri.set1 k (by simpa using hlt) 0) (grown_set (p := ⟨bi, k, none⟩) (grown_of_below (Below.refl _ _)) rfl _)
      rw [matF_upd, diagP_step] at hMn
      have hBn := hB.setCell (p := ⟨bi, k, none⟩) hbiB (.int .i64 0)
      have hMn' := Lib.hid hMn
      have hBn' := Lib.hid hBn
      clear hMn hBn hset hri hv hM hB
      go_wp2
      go_roundw
      case rel => exact ⟨k + 1, hlt, by go_num, hMn'.out, hBn'.out⟩
      case measure => simp [intOf]; omega
    · obtain rfl : k = n := by omega
      rw [diagP_done] at hM
      go_wp2
      go_ret
      exact ⟨_, rfl, hM, hB⟩
set_option maxHeartbeats 4000000 in
set_option maxRecDepth 100000 in
theorem spec_l02Own (v : Value) (T : List (List Int)) (w : World) (h0 : LstM w w.heap.size v T) (h1 : T.length ≤ 1000000) (h2 : Hid (∀ r ∈ T, r.length ≤ 1048576)) :
    Calls Try.prog 98 #[v] w (RetM w T) := by
  obtain ⟨A, c, rfl⟩ := h0.shape
  go_enter Try.func98, Try.ntmps98
  go_wp2
  go_loopw [3, 4] (fun o i wr => ∃ k : Nat, k ≤ T.length ∧ i = .int .i64 k ∧ OwnM wr w.heap.size o (T.take k) ∧ Below w.heap.size w wr) (fun _ i _ => T.length - (intOf i).toNat)
  case atStart => exact ⟨0, Nat.zero_le _, rfl, OwnM.new0 _ _ (Nat.le_refl _), (Below.refl _ _).alloc (Nat.le_refl _) _⟩
  case round =>
    obtain ⟨k, hk, rfl, hM, hB⟩ := hrel
    have hs := hB.size
    by_cases hlt : k < T.length
    · obtain ⟨rs, hl, hO, hR, hD⟩ := hM
      have hlk : (T.take k).length = k := by simp; omega
      have hrlt : Hid (∀ i (hi : i < rs.length) q, rs[i].val.ownBlock = some q → q < wr.heap.size) := fun i hi q hq => ((hR i hi (by omega)).lt q hq).2
      have hR' := Lib.hid hR
      have hD' := Lib.hid hD
      obtain ⟨Y, cy, rfl⟩ := own_shape_n hO (hl.trans hlk)
      have hl' := Lib.hid (hl.trans hlk)
      have hl2 := Lib.hid hl
      clear hR hD hl
      obtain ⟨b, off, cr, r, hA, -, d0, hr⟩ := (h0.now hB).row k hlt
      cases hA
      obtain ⟨R, rc, hv⟩ := hr.shape
      rw [hv] at d0 hr
      clear hv
      have hrl := h2.out _ (List.getElem_mem hlt)
      have hlen : ∀ (R2 : Option Addr) (c2 : Nat), rs.length + [(⟨R2, T[k].length, c2⟩ : Ref)].length ≤ 1099511627776 := by intro _ _; rw [hl'.out]; simp; omega
      have hTk : Hid (T.take (k + 1) = T.take k ++ [T[k]]) := take_succ_get _ _ hlt
      go_wp2_with (first | (go_at_call 103; refine (spec_l01Own _ T[k] wr hr hrl).mono ?_; rintro e w2 ⟨u2, rfl, hr2, hB2⟩; obtain ⟨R2, rc2, rfl⟩ := hr2.shape; have hOn := hO.now hB2; have hs2 := hB2.size) | (at_builtin; refine wpList_append_lst rfl _ _ 28 rfl Ref.cells 1 Ref.cells_one (by omega) w.heap.size 50 _ 24 Try.underlying28 info_ref rfl _ _ rfl (hOn.alloc _) _ _ _ _ [(⟨R2, T[k].length, rc2⟩ : Ref)] rfl (lst_new1 _ _ Ref.cells_len _ _ _ _ rfl _ (by simp)) (hlen _ _) (by omega) (Nat.le_trans hs (Nat.le_trans hs2 (by simp <;> omega))) ?_; intro v' w3 hO1 hG1 hD1))
      go_roundw
      case rel =>
        refine ⟨k + 1, hlt, by go_num, ?_, below_app ((hB.trans (hB2.mono hs)).alloc (Nat.le_trans hs hs2) _) (Nat.le_trans hs (Nat.le_trans hs2 (by simp))) hG1 (hOn.alloc _) (Nat.le_refl _)⟩
        rw [hTk.out]
        exact OwnM.push2 hl2.out (hOn.alloc _) (fun i h1 h2 => ((hR'.out i h1 h2).now hB2).alloc _) hD'.out ⟨R2, T[k].length, rc2⟩ _ wr.heap.size (hr2.alloc _) hs hrlt.out _ hG1 hO1
      case measure => simp [intOf]; omega
    · obtain rfl : k = T.length := by omega
      rw [List.take_length] at hM
      obtain ⟨Y, cy, rfl⟩ := hM.shape
      go_wp2
      go_ret
      exact ⟨_, rfl, hM, hB⟩
set_option maxHeartbeats 4000000 in
set_option maxRecDepth 100000 in
theorem spec_l02Add (u v : Value) (n : Nat) (F G : Nat → Nat → Int) (w : World) (h1 : LstM w w.heap.size u (matF n F n)) (h2 : LstM w w.heap.size v (matF n G n)) (hn : 1 ≤ n) (hn2 : n ≤ 1000) :
    Calls Try.prog 79 #[u, v] w (RetM w (matF n (maxF F G) n)) := by
  obtain ⟨b2, o2, d, _, _, _, rfl, _, _, _, _⟩ := mat_at h2 0 0 hn hn
  have hrows : Hid (∀ r ∈ matF n F n, r.length ≤ 1048576) := by
    intro r hr
    unfold matF at hr
    obtain ⟨i, _, rfl⟩ := List.mem_map.1 hr
    simp
    omega
  have hown := Lib.hid (spec_l02Own u (matF n F n) w h1 (by rw [matF_len]; omega) hrows)
  clear hrows
  obtain ⟨A0, c0, rfl⟩ := h1.shape
  rw [matF_len] at hown ⊢
  go_enter Try.func79, Try.ntmps79
  go_wp2_with (go_at_call 98; refine (hown.out).mono ?_; rintro e w1 ⟨u1, rfl, hM, hB⟩; obtain ⟨A1, c1, rfl⟩ := hM.shape; rw [matF_len] at hM ⊢)
  clear hown
  go_loopw [6, 7] (fun i _ wr => ∃ k : Nat, k ≤ n ∧ i = .int .i64 k ∧ OwnM wr w.heap.size (.slice A1 n c1) (matF n (partP (maxF F G) F k 0) n) ∧ Below w.heap.size w wr) (fun i _ _ => n - (intOf i).toNat)
  case atStart => exact ⟨0, Nat.zero_le _, rfl, by rw [partP_zero]; exact hM, hB⟩
  case round =>
    clear hM hB
    obtain ⟨i, hi, rfl, hM, hB⟩ := hrel
    by_cases hlt : i < n
    · go_wp2
      obtain ⟨wo, rfl⟩ : ∃ wo : World, wo = wr := ⟨_, rfl⟩
      go_loopw [7] (fun jv wr => ∃ j : Nat, j ≤ n ∧ jv = .int .i64 j ∧ OwnM wr w.heap.size (.slice A1 n c1) (matF n (partP (maxF F G) F i j) n) ∧ Below w.heap.size w wr) (fun jv _ => n - (intOf jv).toNat)
      case atStart => exact ⟨0, Nat.zero_le _, rfl, hM, hB⟩
      case round =>
        clear hM hB
        obtain ⟨j, hj, rfl, hM, hB⟩ := hrel
        have hil : i < (matF n (partP (maxF F G) F i j) n).length := by rw [matF_len]; exact hlt
        obtain ⟨g, cu, r, hu, hgb, hgl, hfz, hci, hri, _, hset, _⟩ := hM.row i hil
        rw [matF_len] at hu
        cases hu
        rw [matF_get] at hri
        obtain ⟨bi, ci, hv, hbiB, _, _⟩ := hri.at_ intCell_len 0 (by simp; omega)
        rw [List.length_map, List.length_range] at hv
        rw [hv] at hci hri hset
        by_cases hlt2 : j < n
        · obtain ⟨_, hbl, hfi, hij⟩ := own_ints_at hri j (by simpa using hlt2)
          rw [List.getElem_map, List.getElem_range, partP_at] at hij
          obtain ⟨_, _, _, r2, p2, c2, hu, _, y1, _, y2⟩ := mat_at (h2.now hB) i j hlt hlt2
          cases hu
          obtain ⟨fv, hfv⟩ : ∃ fv, F i j = fv := ⟨_, rfl⟩
          have hval : Hid (maxF F G i j = if fv < G i j then G i j else fv) := by show _ = _; rw [← hfv]; exact max_if _ _
          rw [hfv] at hij
          clear hfv
          have hBd : Below wr.heap.size wr wr.drew := Below.drew (Below.refl _ wr)
          have hMn := hset _ _ ((hri.now hBd).set1 j (by simpa using hlt2) (maxF F G i j)) (grown_set (p := ⟨bi, j, none⟩) (grown_of_below hBd) rfl _)
          rw [matF_upd, partP_step] at hMn
          have hBn := (hB.trans (hBd.mono hB.size)).setCell (p := ⟨bi, j, none⟩) hbiB (.int .i64 (maxF F G i j))
          rw [hval.out] at hMn hBn
          have hMn' := Lib.hid hMn
          have hBn' := Lib.hid hBn
          have z0 := cell_keep hci hBd
          have z1 := cell_keep hij hBd
          have z2 := cell_keep y1 hBd
          have z3 := cell_keep y2 hBd
          have i1 : (0 : Int) ≤ (i : Int) := by omega
          have i2 : (i : Int) < (n : Int) := by omega
          have i3 : (0 : Int) ≤ (j : Int) := by omega
          have i4 : (j : Int) < (n : Int) := by omega
          clear hMn hBn hset hri hv hM hB hval hij y1 y2
          go_wp2_with fail
          refine wp_region_E (fun w' => w'.cell? ⟨g, i, none⟩ = some (.slice (some ⟨bi, 0, none⟩) n ci) ∧ w'.cell? ⟨bi, j, none⟩ = some (.int .i64 fv) ∧ w'.cell? ⟨b2, o2 + i, none⟩ = some (.slice (some ⟨r2, p2, none⟩) n c2) ∧ w'.cell? ⟨r2, p2 + j, none⟩ = some (.int .i64 (G i j))) 21 (by kernel_rfl) ?_
          have hS0 : (fun w' : World => w'.cell? ⟨g, i, none⟩ = some (.slice (some ⟨bi, 0, none⟩) n ci) ∧ w'.cell? ⟨bi, j, none⟩ = some (.int .i64 fv) ∧ w'.cell? ⟨b2, o2 + i, none⟩ = some (.slice (some ⟨r2, p2, none⟩) n c2) ∧ w'.cell? ⟨r2, p2 + j, none⟩ = some (.int .i64 (G i j))) wr.drew := ⟨z0, z1, z2, z3⟩
          refine wpAnyE_take (i := 0) (v := ?_) rfl (by kernel_rfl) (by kernel_rfl) (by kernel_rfl) (by kernel_rfl) (by kernel_rfl) (fun _ _ _ h => h) hS0 (by rfl) ?_ ?_
          rotate_left
          · intro w9 hSw
            try dsimp only at hSw
            obtain ⟨s0, s1, s2, s3⟩ := hSw
            go_simp
            try with_reducible rfl
          try simp only [Act.put, List.setIfInBounds_toArray, List.set_cons_zero, List.set_cons_succ]
          refine wpAnyE_take (i := 1) (v := ?_) rfl (by kernel_rfl) (by kernel_rfl) (by kernel_rfl) (by kernel_rfl) (by kernel_rfl) (fun _ _ _ h => h) hS0 (by rfl) ?_ ?_
          rotate_left
          · intro w9 hSw
            try dsimp only at hSw
            obtain ⟨s0, s1, s2, s3⟩ := hSw
            go_simp
            try with_reducible rfl
          try simp only [Act.put, List.setIfInBounds_toArray, List.set_cons_zero, List.set_cons_succ]
          refine wpAnyE_take (i := 2) (v := ?_) rfl (by kernel_rfl) (by kernel_rfl) (by kernel_rfl) (by kernel_rfl) (by kernel_rfl) (fun _ _ _ h => h) hS0 (by rfl) ?_ ?_
          rotate_left
          · intro w9 hSw
            try dsimp only at hSw
            obtain ⟨s0, s1, s2, s3⟩ := hSw
            go_simp
            try with_reducible rfl
          try simp only [Act.put, List.setIfInBounds_toArray, List.set_cons_zero, List.set_cons_succ]
          refine wpAnyE_take (i := 3) (v := ?_) rfl (by kernel_rfl) (by kernel_rfl) (by kernel_rfl) (by kernel_rfl) (by kernel_rfl) (fun _ _ _ h => h) hS0 (by rfl) ?_ ?_
          rotate_left
          · intro w9 hSw
            try dsimp only at hSw
            obtain ⟨s0, s1, s2, s3⟩ := hSw
            go_simp
            try with_reducible rfl
          try simp only [Act.put, List.setIfInBounds_toArray, List.set_cons_zero, List.set_cons_succ]
          refine wpAnyE_take (i := 4) (v := ?_) rfl (by kernel_rfl) (by kernel_rfl) (by kernel_rfl) (by kernel_rfl) (by kernel_rfl) (fun _ _ _ h => h) hS0 (by rfl) ?_ ?_
          rotate_left
          · intro w9 hSw
            try dsimp only at hSw
            obtain ⟨s0, s1, s2, s3⟩ := hSw
            go_simp
            try with_reducible rfl
          try simp only [Act.put, List.setIfInBounds_toArray, List.set_cons_zero, List.set_cons_succ]
          refine wpAnyE_take (i := 5) (v := ?_) rfl (by kernel_rfl) (by kernel_rfl) (by kernel_rfl) (by kernel_rfl) (by kernel_rfl) (fun _ _ _ h => h) hS0 (by rfl) ?_ ?_
          rotate_left
          · intro w9 hSw
            try dsimp only at hSw
            obtain ⟨s0, s1, s2, s3⟩ := hSw
            go_simp
            try with_reducible rfl
          try simp only [Act.put, List.setIfInBounds_toArray, List.set_cons_zero, List.set_cons_succ]
          refine wpAnyE_take (i := 6) (v := ?_) rfl (by kernel_rfl) (by kernel_rfl) (by kernel_rfl) (by kernel_rfl) (by kernel_rfl) (fun _ _ _ h => h) hS0 (by rfl) ?_ ?_
          rotate_left
          · intro w9 hSw
            try dsimp only at hSw
            obtain ⟨s0, s1, s2, s3⟩ := hSw
            go_simp
            try with_reducible rfl
          try simp only [Act.put, List.setIfInBounds_toArray, List.set_cons_zero, List.set_cons_succ]
          refine wpAnyE_take (i := 7) (v := ?_) rfl (by kernel_rfl) (by kernel_rfl) (by kernel_rfl) (by kernel_rfl) (by kernel_rfl) (fun _ _ _ h => h) hS0 (by rfl) ?_ ?_
          rotate_left
          · intro w9 hSw
            try dsimp only at hSw
            obtain ⟨s0, s1, s2, s3⟩ := hSw
            go_simp
            try with_reducible rfl
          try simp only [Act.put, List.setIfInBounds_toArray, List.set_cons_zero, List.set_cons_succ]
          refine wpAnyE_take (i := 8) (v := ?_) rfl (by kernel_rfl) (by kernel_rfl) (by kernel_rfl) (by kernel_rfl) (by kernel_rfl) (fun _ _ _ h => h) hS0 (by rfl) ?_ ?_
          rotate_left
          · intro w9 hSw
            try dsimp only at hSw
            obtain ⟨s0, s1, s2, s3⟩ := hSw
            go_simp
            try with_reducible rfl
          try simp only [Act.put, List.setIfInBounds_toArray, List.set_cons_zero, List.set_cons_succ]
          refine wpAnyE_take (i := 9) (v := ?_) rfl (by kernel_rfl) (by kernel_rfl) (by kernel_rfl) (by kernel_rfl) (by kernel_rfl) (fun _ _ _ h => h) hS0 (by rfl) ?_ ?_
          rotate_left
          · intro w9 hSw
            try dsimp only at hSw
            obtain ⟨s0, s1, s2, s3⟩ := hSw
            go_simp
            try with_reducible rfl
          try simp only [Act.put, List.setIfInBounds_toArray, List.set_cons_zero, List.set_cons_succ]
          refine wpAnyE_take (i := 10) (v := ?_) rfl (by kernel_rfl) (by kernel_rfl) (by kernel_rfl) (by kernel_rfl) (by kernel_rfl) (fun _ _ _ h => h) hS0 (by rfl) ?_ ?_
          rotate_left
          · intro w9 hSw
            try dsimp only at hSw
            obtain ⟨s0, s1, s2, s3⟩ := hSw
            go_simp
            try with_reducible rfl
          try simp only [Act.put, List.setIfInBounds_toArray, List.set_cons_zero, List.set_cons_succ]
          refine wpAnyE_take (i := 11) (v := ?_) rfl (by kernel_rfl) (by kernel_rfl) (by kernel_rfl) (by kernel_rfl) (by kernel_rfl) (fun _ _ _ h => h) hS0 (by rfl) ?_ ?_
          rotate_left
          · intro w9 hSw
            try dsimp only at hSw
            obtain ⟨s0, s1, s2, s3⟩ := hSw
            go_simp
            try with_reducible rfl
          try simp only [Act.put, List.setIfInBounds_toArray, List.set_cons_zero, List.set_cons_succ]
          refine wpAnyE_take (i := 12) (v := ?_) rfl (by kernel_rfl) (by kernel_rfl) (by kernel_rfl) (by kernel_rfl) (by kernel_rfl) (fun _ _ _ h => h) hS0 (by rfl) ?_ ?_
          rotate_left
          · intro w9 hSw
            try dsimp only at hSw
            obtain ⟨s0, s1, s2, s3⟩ := hSw
            go_simp
            try with_reducible rfl
          try simp only [Act.put, List.setIfInBounds_toArray, List.set_cons_zero, List.set_cons_succ]
          refine wpAnyE_take (i := 13) (v := ?_) rfl (by kernel_rfl) (by kernel_rfl) (by kernel_rfl) (by kernel_rfl) (by kernel_rfl) (fun _ _ _ h => h) hS0 (by rfl) ?_ ?_
          rotate_left
          · intro w9 hSw
            try dsimp only at hSw
            obtain ⟨s0, s1, s2, s3⟩ := hSw
            go_simp
            try with_reducible rfl
          try simp only [Act.put, List.setIfInBounds_toArray, List.set_cons_zero, List.set_cons_succ]
          refine wpAnyE_take (i := 14) (v := ?_) rfl (by kernel_rfl) (by kernel_rfl) (by kernel_rfl) (by kernel_rfl) (by kernel_rfl) (fun _ _ _ h => h) hS0 (by rfl) ?_ ?_
          rotate_left
          · intro w9 hSw
            try dsimp only at hSw
            obtain ⟨s0, s1, s2, s3⟩ := hSw
            go_simp
            try with_reducible rfl
          try simp only [Act.put, List.setIfInBounds_toArray, List.set_cons_zero, List.set_cons_succ]
          refine wpAnyE_take (i := 15) (v := ?_) rfl (by kernel_rfl) (by kernel_rfl) (by kernel_rfl) (by kernel_rfl) (by kernel_rfl) (fun _ _ _ h => h) hS0 (by rfl) ?_ ?_
          rotate_left
          · intro w9 hSw
            try dsimp only at hSw
            obtain ⟨s0, s1, s2, s3⟩ := hSw
            go_simp
            try with_reducible rfl
          try simp only [Act.put, List.setIfInBounds_toArray, List.set_cons_zero, List.set_cons_succ]
          refine wpAnyE_take (i := 16) (v := ?_) rfl (by kernel_rfl) (by kernel_rfl) (by kernel_rfl) (by kernel_rfl) (by kernel_rfl) (fun _ _ _ h => h) hS0 (by rfl) ?_ ?_
          rotate_left
          · intro w9 hSw
            try dsimp only at hSw
            obtain ⟨s0, s1, s2, s3⟩ := hSw
            go_simp
            try with_reducible rfl
          try simp only [Act.put, List.setIfInBounds_toArray, List.set_cons_zero, List.set_cons_succ]
          refine wpAnyE_take (i := 17) (v := ?_) rfl (by kernel_rfl) (by kernel_rfl) (by kernel_rfl) (by kernel_rfl) (by kernel_rfl) (fun _ _ _ h => h) hS0 (by rfl) ?_ ?_
          rotate_left
          · intro w9 hSw
            try dsimp only at hSw
            obtain ⟨s0, s1, s2, s3⟩ := hSw
            go_simp
            try with_reducible rfl
          try simp only [Act.put, List.setIfInBounds_toArray, List.set_cons_zero, List.set_cons_succ]
          refine wpAnyE_take (i := 18) (v := ?_) rfl (by kernel_rfl) (by kernel_rfl) (by kernel_rfl) (by kernel_rfl) (by kernel_rfl) (fun _ _ _ h => h) hS0 (by rfl) ?_ ?_
          rotate_left
          · intro w9 hSw
            try dsimp only at hSw
            obtain ⟨s0, s1, s2, s3⟩ := hSw
            go_simp
            try with_reducible rfl
          try simp only [Act.put, List.setIfInBounds_toArray, List.set_cons_zero, List.set_cons_succ]
          refine wpAnyE_take (i := 19) (v := ?_) rfl (by kernel_rfl) (by kernel_rfl) (by kernel_rfl) (by kernel_rfl) (by kernel_rfl) (fun _ _ _ h => h) hS0 (by rfl) ?_ ?_
          rotate_left
          · intro w9 hSw
            try dsimp only at hSw
            obtain ⟨s0, s1, s2, s3⟩ := hSw
            go_simp
            try with_reducible rfl
          try simp only [Act.put, List.setIfInBounds_toArray, List.set_cons_zero, List.set_cons_succ]
          refine wpAnyE_take (i := 20) (v := ?_) rfl (by kernel_rfl) (by kernel_rfl) (by kernel_rfl) (by kernel_rfl) (by kernel_rfl) (fun _ _ _ h => h) hS0 (by rfl) ?_ ?_
          rotate_left
          · intro w9 hSw
            try dsimp only at hSw
            obtain ⟨s0, s1, s2, s3⟩ := hSw
            go_simp
            try with_reducible rfl
          try simp only [Act.put, List.setIfInBounds_toArray, List.set_cons_zero, List.set_cons_succ]
          refine wpAnyE_one (i := 21) rfl (by kernel_rfl) (fun K hK => ?_)
          go_simp
          refine hK.out _ _ (fun h => absurd rfl h) ?_
          clear hK K
          try simp only [Act.put, List.setIfInBounds_toArray, List.set_cons_zero, List.set_cons_succ]
          refine wpAnyE_done (by kernel_rfl) ?_
          clear hS0 z0 z1 z2 z3
          go_wp2
          go_roundw
          case rel => exact ⟨j + 1, hlt2, by go_num, hMn'.out, hBn'.out⟩
          case measure => simp [intOf]; omega
        · obtain rfl : j = n := by omega
          rw [partP_next] at hM
          clear hset hri
          go_wp2
          go_roundw
          case rel => exact ⟨i + 1, hlt, by go_num, hM, hB⟩
          case measure => simp [intOf]; omega
    · obtain rfl : i = n := by omega
      rw [partP_done] at hM
      go_wp2
      go_ret
      exact ⟨_, rfl, hM, hB⟩
set_option maxHeartbeats 4000000 in
set_option maxRecDepth 100000 in
theorem spec_l02Multiply (u v : Value) (n : Nat) (F G : Nat → Nat → Int) (w : World) (h1 : LstM w w.heap.size u (matF n F n)) (h2 : LstM w w.heap.size v (matF n G n)) (hF : Hid (bnd n F)) (hG : Hid (bnd n G)) (hn : 1 ≤ n) (hn2 : n ≤ 1000) :
    Calls Try.prog 54 #[u, v] w (RetM w (matF n (mulF n F G) n)) := by
  obtain ⟨b1, o1, c, _, _, _, rfl, _, _, _, _⟩ := mat_at h1 0 0 hn hn
  obtain ⟨b2, o2, d, r0, p0, c0, rfl, _, x0, _, _⟩ := mat_at h2 0 0 hn hn
  rw [Nat.add_zero] at x0
  have i0 : 0 < n := by omega
  go_enter Try.func54, Try.ntmps54
  go_wp2_with (go_at_call 27; refine (l02Bottom n n _ hn2 hn2).mono ?_; rintro e w1 ⟨u1, rfl, hM, hB⟩; obtain ⟨A1, c1, rfl⟩ := hM.shape; rw [matF_len] at hM ⊢)
  go_loopw [6, 7, 8] (fun i _ _ wr => ∃ k : Nat, k ≤ n ∧ i = .int .i64 k ∧ OwnM wr w.heap.size (.slice A1 n c1) (matF n (partP (mulF n F G) (fun _ _ => bot) k 0) n) ∧ Below w.heap.size w wr) (fun i _ _ _ => n - (intOf i).toNat)
  case atStart => exact ⟨0, Nat.zero_le _, rfl, by rw [partP_zero]; exact hM, hB⟩
  case round =>
    clear hM hB
    obtain ⟨i, hi, rfl, hM, hB⟩ := hrel
    by_cases hlt : i < n
    · go_wp2
      obtain ⟨wo, rfl⟩ : ∃ wo : World, wo = wr := ⟨_, rfl⟩
      go_loopw [7, 8] (fun jv _ wr => ∃ j : Nat, j ≤ n ∧ jv = .int .i64 j ∧ OwnM wr w.heap.size (.slice A1 n c1) (matF n (partP (mulF n F G) (fun _ _ => bot) i j) n) ∧ Below w.heap.size w wr) (fun jv _ _ => n - (intOf jv).toNat)
      case atStart => exact ⟨0, Nat.zero_le _, rfl, hM, hB⟩
      case round =>
        clear hM hB
        obtain ⟨j, hj, rfl, hM, hB⟩ := hrel
        have x1 := cell_keep x0 hB
        by_cases hlt2 : j < n
        · go_wp2
          clear x1
          obtain ⟨wp, rfl⟩ : ∃ wp : World, wp = wr := ⟨_, rfl⟩
          go_loopw [8] (fun kv wr => ∃ k : Nat, k ≤ n ∧ kv = .int .i64 k ∧ OwnM wr w.heap.size (.slice A1 n c1) (matF n (multP n F G i j k) n) ∧ Below w.heap.size w wr) (fun kv _ => n - (intOf kv).toNat)
          case atStart => exact ⟨0, Nat.zero_le _, rfl, by rw [multP_zero]; exact hM, hB⟩
          case round =>
            clear hM hB
            obtain ⟨k, hk, rfl, hM, hB⟩ := hrel
            by_cases hlt3 : k < n
            · have hil : i < (matF n (multP n F G i j k) n).length := by rw [matF_len]; exact hlt
              obtain ⟨g, cu, r, hu, hgb, hgl, hfz, hci, hri, _, hset, _⟩ := hM.row i hil
              rw [matF_len] at hu
              cases hu
              rw [matF_get] at hri
              obtain ⟨bi, ci, hv, hbiB, _, _⟩ := hri.at_ intCell_len j (by simpa using hlt2)
              rw [List.length_map, List.length_range] at hv
              rw [hv] at hci hri hset
              obtain ⟨_, hbl, hfi, hij⟩ := own_ints_at hri j (by simpa using hlt2)
              rw [List.getElem_map, List.getElem_range] at hij
              obtain ⟨fv, hfv⟩ : ∃ fv, sumT k (fun k => tms (F i k) (G k j)) = fv := ⟨_, rfl⟩
              rw [show multP n F G i j k i j = fv by unfold multP; rw [updF_at, hfv]] at hij
              obtain ⟨_, _, _, r1, p1, c1', hu, _, x1, _, x2⟩ := mat_at (h1.now hB) i k hlt hlt3
              cases hu
              obtain ⟨_, _, _, r2, p2, c2, hu, _, y1, _, y2⟩ := mat_at (h2.now hB) k j hlt3 hlt2
              cases hu
              have htm := Lib.hid (fun W => spec_l01Times (F i k) (G k j) W (hF.out i k hlt hlt3) (hG.out k j hlt3 hlt2))
              have hval : Hid (sumT (k + 1) (fun k => tms (F i k) (G k j)) = if fv < tms (F i k) (G k j) then tms (F i k) (G k j) else fv) := by show _ = _; rw [← hfv]; exact sumT_if _ _
              clear hfv
              have hBd : Below wr.heap.size wr wr.drew := Below.drew (Below.refl _ wr)
              have hMn := hset _ _ ((hri.now hBd).set1 j (by simpa using hlt2) (if fv < tms (F i k) (G k j) then tms (F i k) (G k j) else fv)) (grown_set (p := ⟨bi, j, none⟩) (grown_of_below hBd) rfl _)
              rw [matF_upd, ← hval.out, show updF (multP n F G i j k) i j (sumT (k + 1) fun k => tms (F i k) (G k j)) = multP n F G i j (k + 1) from updF_updF _ _ _ _ _] at hMn
              have hBn := (hB.trans (hBd.mono hB.size)).setCell (p := ⟨bi, j, none⟩) hbiB (.int .i64 (if fv < tms (F i k) (G k j) then tms (F i k) (G k j) else fv))
              rw [hval.out] at hMn
              have hMn' := Lib.hid hMn
              have hBn' := Lib.hid hBn
              have z0 := cell_keep hci hBd
              have z1 := cell_keep hij hBd
              have z2 := cell_keep x1 hBd
              have z3 := cell_keep x2 hBd
              have z4 := cell_keep y1 hBd
              have z5 := cell_keep y2 hBd
              have i1 : (0 : Int) ≤ (i : Int) := by omega
              have i2 : (i : Int) < (n : Int) := by omega
              have i3 : (0 : Int) ≤ (j : Int) := by omega
              have i4 : (j : Int) < (n : Int) := by omega
              have i5 : (0 : Int) ≤ (k : Int) := by omega
              have i6 : (k : Int) < (n : Int) := by omega
              clear hMn hBn hset hri hv hM hB hval hij x1 x2 y1 y2
              go_wp2_with fail
              refine wp_region_E (fun w' => w'.cell? ⟨g, i, none⟩ = some (.slice (some ⟨bi, 0, none⟩) n ci) ∧ w'.cell? ⟨bi, j, none⟩ = some (.int .i64 fv) ∧ w'.cell? ⟨b1, o1 + i, none⟩ = some (.slice (some ⟨r1, p1, none⟩) n c1') ∧ w'.cell? ⟨r1, p1 + k, none⟩ = some (.int .i64 (F i k)) ∧ w'.cell? ⟨b2, o2 + k, none⟩ = some (.slice (some ⟨r2, p2, none⟩) n c2) ∧ w'.cell? ⟨r2, p2 + j, none⟩ = some (.int .i64 (G k j))) 29 (by kernel_rfl) ?_
              have hS0 : (fun w' : World => w'.cell? ⟨g, i, none⟩ = some (.slice (some ⟨bi, 0, none⟩) n ci) ∧ w'.cell? ⟨bi, j, none⟩ = some (.int .i64 fv) ∧ w'.cell? ⟨b1, o1 + i, none⟩ = some (.slice (some ⟨r1, p1, none⟩) n c1') ∧ w'.cell? ⟨r1, p1 + k, none⟩ = some (.int .i64 (F i k)) ∧ w'.cell? ⟨b2, o2 + k, none⟩ = some (.slice (some ⟨r2, p2, none⟩) n c2) ∧ w'.cell? ⟨r2, p2 + j, none⟩ = some (.int .i64 (G k j))) wr.drew := ⟨z0, z1, z2, z3, z4, z5⟩
              refine wpAnyE_take (i := 0) (v := ?_) rfl (by kernel_rfl) (by kernel_rfl) (by kernel_rfl) (by kernel_rfl) (by kernel_rfl) (fun _ _ _ h => h) hS0 (by rfl) ?_ ?_
              rotate_left
              · intro w9 hSw
                try dsimp only at hSw
                obtain ⟨s0, s1, s2, s3, s4, s5⟩ := hSw
                go_simp
                try with_reducible rfl
              try simp only [Act.put, List.setIfInBounds_toArray, List.set_cons_zero, List.set_cons_succ]
              refine wpAnyE_take (i := 1) (v := ?_) rfl (by kernel_rfl) (by kernel_rfl) (by kernel_rfl) (by kernel_rfl) (by kernel_rfl) (fun _ _ _ h => h) hS0 (by rfl) ?_ ?_
              rotate_left
              · intro w9 hSw
                try dsimp only at hSw
                obtain ⟨s0, s1, s2, s3, s4, s5⟩ := hSw
                go_simp
                try with_reducible rfl
              try simp only [Act.put, List.setIfInBounds_toArray, List.set_cons_zero, List.set_cons_succ]
              refine wpAnyE_take (i := 2) (v := ?_) rfl (by kernel_rfl) (by kernel_rfl) (by kernel_rfl) (by kernel_rfl) (by kernel_rfl) (fun _ _ _ h => h) hS0 (by rfl) ?_ ?_
              rotate_left
              · intro w9 hSw
                try dsimp only at hSw
                obtain ⟨s0, s1, s2, s3, s4, s5⟩ := hSw
                go_simp
                try with_reducible rfl
              try simp only [Act.put, List.setIfInBounds_toArray, List.set_cons_zero, List.set_cons_succ]
              refine wpAnyE_take (i := 3) (v := ?_) rfl (by kernel_rfl) (by kernel_rfl) (by kernel_rfl) (by kernel_rfl) (by kernel_rfl) (fun _ _ _ h => h) hS0 (by rfl) ?_ ?_
              rotate_left
              · intro w9 hSw
                try dsimp only at hSw
                obtain ⟨s0, s1, s2, s3, s4, s5⟩ := hSw
                go_simp
                try with_reducible rfl
              try simp only [Act.put, List.setIfInBounds_toArray, List.set_cons_zero, List.set_cons_succ]
              refine wpAnyE_take (i := 4) (v := ?_) rfl (by kernel_rfl) (by kernel_rfl) (by kernel_rfl) (by kernel_rfl) (by kernel_rfl) (fun _ _ _ h => h) hS0 (by rfl) ?_ ?_
              rotate_left
              · intro w9 hSw
                try dsimp only at hSw
                obtain ⟨s0, s1, s2, s3, s4, s5⟩ := hSw
                go_simp
                try with_reducible rfl
              try simp only [Act.put, List.setIfInBounds_toArray, List.set_cons_zero, List.set_cons_succ]
              refine wpAnyE_take (i := 5) (v := ?_) rfl (by kernel_rfl) (by kernel_rfl) (by kernel_rfl) (by kernel_rfl) (by kernel_rfl) (fun _ _ _ h => h) hS0 (by rfl) ?_ ?_
              rotate_left
              · intro w9 hSw
                try dsimp only at hSw
                obtain ⟨s0, s1, s2, s3, s4, s5⟩ := hSw
                go_simp
                try with_reducible rfl
              try simp only [Act.put, List.setIfInBounds_toArray, List.set_cons_zero, List.set_cons_succ]
              refine wpAnyE_take (i := 6) (v := ?_) rfl (by kernel_rfl) (by kernel_rfl) (by kernel_rfl) (by kernel_rfl) (by kernel_rfl) (fun _ _ _ h => h) hS0 (by rfl) ?_ ?_
              rotate_left
              · intro w9 hSw
                try dsimp only at hSw
                obtain ⟨s0, s1, s2, s3, s4, s5⟩ := hSw
                go_simp
                try with_reducible rfl
              try simp only [Act.put, List.setIfInBounds_toArray, List.set_cons_zero, List.set_cons_succ]
              refine wpAnyE_take (i := 7) (v := ?_) rfl (by kernel_rfl) (by kernel_rfl) (by kernel_rfl) (by kernel_rfl) (by kernel_rfl) (fun _ _ _ h => h) hS0 (by rfl) ?_ ?_
              rotate_left
              · intro w9 hSw
                try dsimp only at hSw
                obtain ⟨s0, s1, s2, s3, s4, s5⟩ := hSw
                go_simp
                try with_reducible rfl
              try simp only [Act.put, List.setIfInBounds_toArray, List.set_cons_zero, List.set_cons_succ]
              refine wpAnyE_take (i := 8) (v := ?_) rfl (by kernel_rfl) (by kernel_rfl) (by kernel_rfl) (by kernel_rfl) (by kernel_rfl) (fun _ _ _ h => h) hS0 (by rfl) ?_ ?_
              rotate_left
              · intro w9 hSw
                try dsimp only at hSw
                obtain ⟨s0, s1, s2, s3, s4, s5⟩ := hSw
                go_simp
                try with_reducible rfl
              try simp only [Act.put, List.setIfInBounds_toArray, List.set_cons_zero, List.set_cons_succ]
              refine wpAnyE_take (i := 9) (v := ?_) rfl (by kernel_rfl) (by kernel_rfl) (by kernel_rfl) (by kernel_rfl) (by kernel_rfl) (fun _ _ _ h => h) hS0 (by rfl) ?_ ?_
              rotate_left
              · intro w9 hSw
                try dsimp only at hSw
                obtain ⟨s0, s1, s2, s3, s4, s5⟩ := hSw
                go_simp
                try with_reducible rfl
              try simp only [Act.put, List.setIfInBounds_toArray, List.set_cons_zero, List.set_cons_succ]
              refine wpAnyE_take (i := 10) (v := ?_) rfl (by kernel_rfl) (by kernel_rfl) (by kernel_rfl) (by kernel_rfl) (by kernel_rfl) (fun _ _ _ h => h) hS0 (by rfl) ?_ ?_
              rotate_left
              · intro w9 hSw
                try dsimp only at hSw
                obtain ⟨s0, s1, s2, s3, s4, s5⟩ := hSw
                go_simp
                try with_reducible rfl
              try simp only [Act.put, List.setIfInBounds_toArray, List.set_cons_zero, List.set_cons_succ]
              refine wpAnyE_take (i := 11) (v := ?_) rfl (by kernel_rfl) (by kernel_rfl) (by kernel_rfl) (by kernel_rfl) (by kernel_rfl) (fun _ _ _ h => h) hS0 (by rfl) ?_ ?_
              rotate_left
              · intro w9 hSw
                try dsimp only at hSw
                obtain ⟨s0, s1, s2, s3, s4, s5⟩ := hSw
                go_simp
                try with_reducible rfl
              try simp only [Act.put, List.setIfInBounds_toArray, List.set_cons_zero, List.set_cons_succ]
              refine wpAnyE_take (i := 12) (v := ?_) rfl (by kernel_rfl) (by kernel_rfl) (by kernel_rfl) (by kernel_rfl) (by kernel_rfl) (fun _ _ _ h => h) hS0 (by rfl) ?_ ?_
              rotate_left
              · intro w9 hSw
                try dsimp only at hSw
                obtain ⟨s0, s1, s2, s3, s4, s5⟩ := hSw
                go_simp
                try with_reducible rfl
              try simp only [Act.put, List.setIfInBounds_toArray, List.set_cons_zero, List.set_cons_succ]
              refine wpAnyE_take (i := 13) (v := ?_) rfl (by kernel_rfl) (by kernel_rfl) (by kernel_rfl) (by kernel_rfl) (by kernel_rfl) (fun _ _ _ h => h) hS0 (by rfl) ?_ ?_
              rotate_left
              · intro w9 hSw
                try dsimp only at hSw
                obtain ⟨s0, s1, s2, s3, s4, s5⟩ := hSw
                go_simp
                try with_reducible rfl
              try simp only [Act.put, List.setIfInBounds_toArray, List.set_cons_zero, List.set_cons_succ]
              refine wpAnyE_take (i := 14) (v := ?_) rfl (by kernel_rfl) (by kernel_rfl) (by kernel_rfl) (by kernel_rfl) (by kernel_rfl) (fun _ _ _ h => h) hS0 (by rfl) ?_ ?_
              rotate_left
              · intro w9 hSw
                try dsimp only at hSw
                obtain ⟨s0, s1, s2, s3, s4, s5⟩ := hSw
                go_simp
                try with_reducible rfl
              try simp only [Act.put, List.setIfInBounds_toArray, List.set_cons_zero, List.set_cons_succ]
              refine wpAnyE_take (i := 15) (v := ?_) rfl (by kernel_rfl) (by kernel_rfl) (by kernel_rfl) (by kernel_rfl) (by kernel_rfl) (fun _ _ _ h => h) hS0 (by rfl) ?_ ?_
              rotate_left
              · intro w9 hSw
                try dsimp only at hSw
                obtain ⟨s0, s1, s2, s3, s4, s5⟩ := hSw
                go_simp
                try with_reducible rfl
              try simp only [Act.put, List.setIfInBounds_toArray, List.set_cons_zero, List.set_cons_succ]
              refine wpAnyE_take (i := 16) (v := ?_) rfl (by kernel_rfl) (by kernel_rfl) (by kernel_rfl) (by kernel_rfl) (by kernel_rfl) (fun _ _ _ h => h) hS0 (by rfl) ?_ ?_
              rotate_left
              · intro w9 hSw
                try dsimp only at hSw
                obtain ⟨s0, s1, s2, s3, s4, s5⟩ := hSw
                go_simp
                try with_reducible rfl
              try simp only [Act.put, List.setIfInBounds_toArray, List.set_cons_zero, List.set_cons_succ]
              refine wpAnyE_take (i := 17) (v := ?_) rfl (by kernel_rfl) (by kernel_rfl) (by kernel_rfl) (by kernel_rfl) (by kernel_rfl) (fun _ _ _ h => h) hS0 (by rfl) ?_ ?_
              rotate_left
              · intro w9 hSw
                try dsimp only at hSw
                obtain ⟨s0, s1, s2, s3, s4, s5⟩ := hSw
                go_simp
                try with_reducible rfl
              try simp only [Act.put, List.setIfInBounds_toArray, List.set_cons_zero, List.set_cons_succ]
              refine wpAnyE_take (i := 18) (v := ?_) rfl (by kernel_rfl) (by kernel_rfl) (by kernel_rfl) (by kernel_rfl) (by kernel_rfl) (fun _ _ _ h => h) hS0 (by rfl) ?_ ?_
              rotate_left
              · intro w9 hSw
                try dsimp only at hSw
                obtain ⟨s0, s1, s2, s3, s4, s5⟩ := hSw
                go_simp
                try with_reducible rfl
              try simp only [Act.put, List.setIfInBounds_toArray, List.set_cons_zero, List.set_cons_succ]
              refine wpAnyE_take (i := 19) (v := ?_) rfl (by kernel_rfl) (by kernel_rfl) (by kernel_rfl) (by kernel_rfl) (by kernel_rfl) (fun _ _ _ h => h) hS0 (by rfl) ?_ ?_
              rotate_left
              · intro w9 hSw
                try dsimp only at hSw
                obtain ⟨s0, s1, s2, s3, s4, s5⟩ := hSw
                go_simp
                try with_reducible rfl
              try simp only [Act.put, List.setIfInBounds_toArray, List.set_cons_zero, List.set_cons_succ]
              refine wpAnyE_take (i := 20) (v := ?_) rfl (by kernel_rfl) (by kernel_rfl) (by kernel_rfl) (by kernel_rfl) (by kernel_rfl) (fun _ _ _ h => h) hS0 (by rfl) ?_ ?_
              rotate_left
              · intro w9 hSw
                try dsimp only at hSw
                obtain ⟨s0, s1, s2, s3, s4, s5⟩ := hSw
                go_simp
                try with_reducible rfl
              try simp only [Act.put, List.setIfInBounds_toArray, List.set_cons_zero, List.set_cons_succ]
              refine wpAnyE_take (i := 21) (v := ?_) rfl (by kernel_rfl) (by kernel_rfl) (by kernel_rfl) (by kernel_rfl) (by kernel_rfl) (fun _ _ _ h => h) hS0 (by rfl) ?_ ?_
              rotate_left
              · intro w9 hSw
                try dsimp only at hSw
                obtain ⟨s0, s1, s2, s3, s4, s5⟩ := hSw
                go_simp
                try with_reducible rfl
              try simp only [Act.put, List.setIfInBounds_toArray, List.set_cons_zero, List.set_cons_succ]
              refine wpAnyE_take (i := 22) (v := ?_) rfl (by kernel_rfl) (by kernel_rfl) (by kernel_rfl) (by kernel_rfl) (by kernel_rfl) (fun _ _ _ h => h) hS0 (by rfl) ?_ ?_
              rotate_left
              · intro w9 hSw
                try dsimp only at hSw
                obtain ⟨s0, s1, s2, s3, s4, s5⟩ := hSw
                go_simp
                try with_reducible rfl
              try simp only [Act.put, List.setIfInBounds_toArray, List.set_cons_zero, List.set_cons_succ]
              refine wpAnyE_take (i := 23) (v := ?_) rfl (by kernel_rfl) (by kernel_rfl) (by kernel_rfl) (by kernel_rfl) (by kernel_rfl) (fun _ _ _ h => h) hS0 (by rfl) ?_ ?_
              rotate_left
              · intro w9 hSw
                try dsimp only at hSw
                obtain ⟨s0, s1, s2, s3, s4, s5⟩ := hSw
                go_simp
                try with_reducible rfl
              try simp only [Act.put, List.setIfInBounds_toArray, List.set_cons_zero, List.set_cons_succ]
              refine wpAnyE_take (i := 24) (v := ?_) rfl (by kernel_rfl) (by kernel_rfl) (by kernel_rfl) (by kernel_rfl) (by kernel_rfl) (fun _ _ _ h => h) hS0 (by rfl) ?_ ?_
              rotate_left
              · intro w9 hSw
                try dsimp only at hSw
                obtain ⟨s0, s1, s2, s3, s4, s5⟩ := hSw
                go_simp
                try with_reducible rfl
              try simp only [Act.put, List.setIfInBounds_toArray, List.set_cons_zero, List.set_cons_succ]
              refine wpAnyE_take (i := 25) (v := ?_) rfl (by kernel_rfl) (by kernel_rfl) (by kernel_rfl) (by kernel_rfl) (by kernel_rfl) (fun _ _ _ h => h) hS0 (by rfl) ?_ ?_
              rotate_left
              · intro w9 hSw
                try dsimp only at hSw
                obtain ⟨s0, s1, s2, s3, s4, s5⟩ := hSw
                go_simp
                try with_reducible rfl
              try simp only [Act.put, List.setIfInBounds_toArray, List.set_cons_zero, List.set_cons_succ]
              refine wpAnyE_one (i := 26) rfl (by kernel_rfl) (fun K hK => ?_)
              go_simp
              go_at_call 81
              refine (htm.out _).mono ?_
              rintro e9 w9 ⟨rfl, rfl⟩
              refine hK.out _ _ (fun _ => ⟨z0, z1, z2, z3, z4, z5⟩) ?_
              clear hK K
              try simp only [Act.put, List.setIfInBounds_toArray, List.set_cons_zero, List.set_cons_succ]
              refine wpAnyE_one (i := 27) rfl (by kernel_rfl) (fun K hK => ?_)
              go_simp
              refine hK.out _ _ (fun _ => ⟨z0, z1, z2, z3, z4, z5⟩) ?_
              clear hK K
              try simp only [Act.put, List.setIfInBounds_toArray, List.set_cons_zero, List.set_cons_succ]
              refine wpAnyE_one (i := 28) rfl (by kernel_rfl) (fun K hK => ?_)
              go_simp
              refine hK.out _ _ (fun _ => ⟨z0, z1, z2, z3, z4, z5⟩) ?_
              clear hK K
              try simp only [Act.put, List.setIfInBounds_toArray, List.set_cons_zero, List.set_cons_succ]
              refine wpAnyE_one (i := 29) rfl (by kernel_rfl) (fun K hK => ?_)
              go_simp
              refine hK.out _ _ (fun h => absurd rfl h) ?_
              clear hK K
              try simp only [Act.put, List.setIfInBounds_toArray, List.set_cons_zero, List.set_cons_succ]
              refine wpAnyE_done (by kernel_rfl) ?_
              clear hS0 z0 z1 z2 z3 z4 z5 htm
              go_wp2
              go_roundw
              case rel => exact ⟨k + 1, hlt3, by go_num, hMn'.out, hBn'.out⟩
              case measure => simp [intOf]; omega
            · obtain rfl : k = n := by omega
              rw [multP_done] at hM
              go_wp2
              go_roundw
              case rel => exact ⟨j + 1, hlt2, by go_num, hM, hB⟩
              case measure => simp [intOf]; omega
        · obtain rfl : j = n := by omega
          rw [partP_next] at hM
          go_wp2
          go_roundw
          case rel => exact ⟨i + 1, hlt, by go_num, hM, hB⟩
          case measure => simp [intOf]; omega
    · obtain rfl : i = n := by omega
      rw [partP_done] at hM
      go_wp2
      go_ret
      exact ⟨_, rfl, hM, hB⟩
end Go.Proofs.Ytcoomogabicfnaa
