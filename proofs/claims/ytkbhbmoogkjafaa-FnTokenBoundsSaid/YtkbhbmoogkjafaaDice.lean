/-
  The laws' dice.
-/
import Derived.Test.YtkbhbmoogkjafaaBytes
import Derived.Laws.Bits64b
namespace Go.Proofs.Ytkbhbmoogkjafaa
open Go.RowKit
set_option linter.unusedVariables false
set_option linter.unusedSimpArgs false
def DieAt (w : World) (g : Nat) (A : Option Addr) (n c : Nat) (i h : Int) (bs : List Int) : Prop :=
  Blk w g 133 #[.slice A n c, .int .i64 i, .int .u64 h] ∧ bs.length = n ∧ Lst byteCell 1 w g (.slice A n c) bs ∧ (∀ b ∈ bs, 0 ≤ b ∧ b ≤ 255) ∧ (0 ≤ i ∧ i ≤ n) ∧ (0 ≤ h ∧ h < 18446744073709551616) ∧ n ≤ 9223372036854775807
/-- A die in block g: its bytes lie below it. -/
def Die (w : World) (g : Nat) : Prop := ∃ A n c i h bs, DieAt w g A n c i h bs
theorem u64w (x : Int) : 0 ≤ IntKind.u64.wrap x ∧ IntKind.u64.wrap x < 18446744073709551616 := by
  have h : IntKind.u64.wrap x = x % 18446744073709551616 := by simp [IntKind.wrap, IntKind.bits, IntKind.signed]
  rw [h]
  omega
section
variable {w w' : World} {g n c : Nat} {A : Option Addr} {i h : Int} {bs : List Int}
theorem DieAt.kept (hD : DieAt w g A n c i h bs) {row : Option Nat} (hG : w.grownBy w' row) (hr : ∀ k, row = some k → g < k) : DieAt w' g A n c i h bs := by
  obtain ⟨h1, h2, h3, h4⟩ := hD
  have hg := h1.lt
  refine ⟨h1.grown hG (fun e => by have := hr g e.symm; omega), h2, lst_keep h3 fun b o hb => ?_, h4⟩
  have h5 := hG.block b (by omega) (fun e => by have := hr b e.symm; omega)
  simp only [World.cell?, h5]
theorem DieAt.drew (hD : DieAt w g A n c i h bs) : DieAt w.drew g A n c i h bs := hD.kept (grown_drew w none) (fun k e => by cases e)
theorem DieAt.hTo (hD : DieAt w g A n c i h bs) (h' : Int) (hh : 0 ≤ h' ∧ h' < 18446744073709551616) : DieAt (w.setCell ⟨g, 2, none⟩ (.int .u64 h')) g A n c i h' bs := by
  obtain ⟨h1, h2, h3, h4, h5, h6, h7⟩ := hD
  refine ⟨by simpa using h1.set_ 2 (.int .u64 h'), h2, lst_keep h3 fun b o hb => ?_, h4, h5, hh, h7⟩
  exact World.cell?_setCell_far w ⟨g, 2, none⟩ ⟨b, o, none⟩ _ (by show g ≠ b; omega)
theorem DieAt.iTo (hD : DieAt w g A n c i h bs) (i' : Int) (hi : 0 ≤ i' ∧ i' ≤ n) : DieAt (w.setCell ⟨g, 1, none⟩ (.int .i64 i')) g A n c i' h bs := by
  obtain ⟨h1, h2, h3, h4, h5, h6, h7⟩ := hD
  refine ⟨by simpa using h1.set_ 1 (.int .i64 i'), h2, lst_keep h3 fun b o hb => ?_, h4, hi, h6, h7⟩
  exact World.cell?_setCell_far w ⟨g, 1, none⟩ ⟨b, o, none⟩ _ (by show g ≠ b; omega)
theorem DieAt.cells (hD : DieAt w g A n c i h bs) : w.cell? ⟨g, 0, none⟩ = some (.slice A n c) ∧ w.cell? ⟨g, 1, none⟩ = some (.int .i64 i) ∧ w.cell? ⟨g, 2, none⟩ = some (.int .u64 h) ∧ (∀ j, w.frozen? ⟨g, j, none⟩ = false) ∧ g < w.heap.size :=
  ⟨hD.1.c3.1, hD.1.c3.2.1, hD.1.c3.2.2, hD.1.frozen, hD.1.lt⟩
theorem DieAt.grownTo (hD : DieAt w g A n c i h bs) : Die w g := ⟨_, _, _, _, _, _, hD⟩
end
set_option maxHeartbeats 4000000 in
set_option maxRecDepth 100000 in
theorem laws_roll (v : Value) (bs : List Int) (s : Int) (w : World) (h0 : Lst byteCell 1 w w.heap.size v bs) (hbv : Hid (∀ b ∈ bs, 0 ≤ b ∧ b ≤ 255)) :
    Calls Try.prog 47 #[v, .int .u64 s] w fun e w' => e = .returned (.pointer (some ⟨w.heap.size, 0, none⟩)) ∧ Die w' w.heap.size ∧ Below w.heap.size w w' := by
  obtain ⟨A, c, rfl⟩ := h0.shape
  have hl := h0.len_le
  obtain ⟨h1, hh1⟩ : ∃ h1, IntKind.u64.wrap (s * 9103) = h1 := ⟨_, rfl⟩
  obtain ⟨h2, hh2⟩ : ∃ h2, IntKind.u64.wrap (h1 + (bs.length : Int)) = h2 := ⟨_, rfl⟩
  have hr2 := u64w (h1 + (bs.length : Int))
  rw [hh2] at hr2
  go_enter Try.func47, Try.ntmps47
  go_wp2
  clear hh1 hh2
  have hA : Below w.heap.size w (w.alloc (.cells #[.slice A bs.length c, .int .i64 0, .int .u64 h2] 133)) := (Below.refl _ _).alloc (Nat.le_refl _) _
  have hS0 : DieAt (w.alloc (.cells #[.slice A bs.length c, .int .i64 0, .int .u64 h2] 133)) w.heap.size A bs.length c 0 h2 bs := ⟨Blk.new _ _ _, rfl, lst_keep h0 (fun b o hb => hA.cell (p := ⟨b, o, none⟩) hb), hbv.out, by omega, hr2, hl⟩
  go_loopw [6] (fun i wr => ∃ (k : Nat) (h : Int), k ≤ bs.length ∧ i = .int .i64 k ∧ DieAt wr w.heap.size A bs.length c 0 h bs ∧ Below w.heap.size w wr) (fun i _ => bs.length - (intOf i).toNat)
  case atStart => exact ⟨0, _, Nat.zero_le _, rfl, hS0, hA⟩
  case round =>
    clear hS0 hA hr2
    obtain ⟨k, h, hk, rfl, hS, hB⟩ := hrel
    by_cases hlt : k < bs.length
    · obtain ⟨b, off, hA, hb, hc⟩ := bytes_at hS.2.2.1 k hlt
      cases hA
      have hbb := hbv.out _ (List.getElem_mem hlt)
      obtain ⟨bv, hbvd⟩ : ∃ bv, bs[k] = bv := ⟨_, rfl⟩
      rw [hbvd] at hc hbb
      clear hbvd
      obtain ⟨h1, hh1⟩ : ∃ h1, IntKind.u64.wrap (h * 1099511628211) = h1 := ⟨_, rfl⟩
      have w5 : IntKind.u64.wrap bv = bv := IntWalk.u64_in _ (by omega)
      obtain ⟨h2, hh2⟩ : ∃ h2, IntKind.u64.wrap (h1 + bv) = h2 := ⟨_, rfl⟩
      obtain ⟨h3, hh3⟩ : ∃ h3, IntKind.u64.wrap (h2 + 5) = h3 := ⟨_, rfl⟩
      have hr3 := u64w (h2 + 5)
      rw [hh3] at hr3
      have hSn := hS.drew.hTo h3 hr3
      have hSn' := Lib.hid hSn
      have hBn' := Lib.hid (hB.drew.setCell (p := ⟨w.heap.size, 2, none⟩) (Nat.le_refl _) (.int .u64 h3))
      obtain ⟨e0, e1, e2, hf, hlt9⟩ := hS.drew.cells
      have z0 := e2
      have z1 := cell_keep hc (Below.drew (Below.refl _ wr))
      have i1 : (0 : Int) ≤ (k : Int) := by omega
      have i2 : (k : Int) < (bs.length : Int) := by omega
      clear hSn hS hB hr3 e0 e1 hc hbb
      go_wp2_with fail
      refine wp_region_E (fun w' => w'.cell? ⟨w.heap.size, 2, none⟩ = some (.int .u64 h) ∧ w'.cell? ⟨b, off + k, none⟩ = some (.int .u8 bv)) 15 (by kernel_rfl) ?_
      have hS0 : (fun w' : World => w'.cell? ⟨w.heap.size, 2, none⟩ = some (.int .u64 h) ∧ w'.cell? ⟨b, off + k, none⟩ = some (.int .u8 bv)) wr.drew := ⟨z0, z1⟩
      refine wpAnyE_take (i := 0) (v := ?_) rfl (by kernel_rfl) (by kernel_rfl) (by kernel_rfl) (by kernel_rfl) (by kernel_rfl) (fun _ _ _ h => h) hS0 (by rfl) ?_ ?_
      rotate_left
      · intro w9 hSw
        try dsimp only at hSw
        obtain ⟨s0, s1⟩ := hSw
        go_simp
        try with_reducible rfl
      try simp only [Act.put, List.setIfInBounds_toArray, List.set_cons_zero, List.set_cons_succ]
      refine wpAnyE_take (i := 1) (v := ?_) rfl (by kernel_rfl) (by kernel_rfl) (by kernel_rfl) (by kernel_rfl) (by kernel_rfl) (fun _ _ _ h => h) hS0 (by rfl) ?_ ?_
      rotate_left
      · intro w9 hSw
        try dsimp only at hSw
        obtain ⟨s0, s1⟩ := hSw
        go_simp
        try with_reducible rfl
      try simp only [Act.put, List.setIfInBounds_toArray, List.set_cons_zero, List.set_cons_succ]
      refine wpAnyE_take (i := 2) (v := ?_) rfl (by kernel_rfl) (by kernel_rfl) (by kernel_rfl) (by kernel_rfl) (by kernel_rfl) (fun _ _ _ h => h) hS0 (by rfl) ?_ ?_
      rotate_left
      · intro w9 hSw
        try dsimp only at hSw
        obtain ⟨s0, s1⟩ := hSw
        go_simp
        try with_reducible rfl
      try simp only [Act.put, List.setIfInBounds_toArray, List.set_cons_zero, List.set_cons_succ]
      refine wpAnyE_take (i := 3) (v := ?_) rfl (by kernel_rfl) (by kernel_rfl) (by kernel_rfl) (by kernel_rfl) (by kernel_rfl) (fun _ _ _ h => h) hS0 (by rfl) ?_ ?_
      rotate_left
      · intro w9 hSw
        try dsimp only at hSw
        obtain ⟨s0, s1⟩ := hSw
        go_simp
        try with_reducible rfl
      try simp only [Act.put, List.setIfInBounds_toArray, List.set_cons_zero, List.set_cons_succ]
      refine wpAnyE_take (i := 4) (v := ?_) rfl (by kernel_rfl) (by kernel_rfl) (by kernel_rfl) (by kernel_rfl) (by kernel_rfl) (fun _ _ _ h => h) hS0 (by rfl) ?_ ?_
      rotate_left
      · intro w9 hSw
        try dsimp only at hSw
        obtain ⟨s0, s1⟩ := hSw
        go_simp
        try with_reducible rfl
      try simp only [Act.put, List.setIfInBounds_toArray, List.set_cons_zero, List.set_cons_succ]
      refine wpAnyE_take (i := 5) (v := ?_) rfl (by kernel_rfl) (by kernel_rfl) (by kernel_rfl) (by kernel_rfl) (by kernel_rfl) (fun _ _ _ h => h) hS0 (by rfl) ?_ ?_
      rotate_left
      · intro w9 hSw
        try dsimp only at hSw
        obtain ⟨s0, s1⟩ := hSw
        go_simp
        try with_reducible rfl
      try simp only [Act.put, List.setIfInBounds_toArray, List.set_cons_zero, List.set_cons_succ]
      refine wpAnyE_take (i := 6) (v := ?_) rfl (by kernel_rfl) (by kernel_rfl) (by kernel_rfl) (by kernel_rfl) (by kernel_rfl) (fun _ _ _ h => h) hS0 (by rfl) ?_ ?_
      rotate_left
      · intro w9 hSw
        try dsimp only at hSw
        obtain ⟨s0, s1⟩ := hSw
        go_simp
        try with_reducible rfl
      try simp only [Act.put, List.setIfInBounds_toArray, List.set_cons_zero, List.set_cons_succ]
      refine wpAnyE_take (i := 7) (v := ?_) rfl (by kernel_rfl) (by kernel_rfl) (by kernel_rfl) (by kernel_rfl) (by kernel_rfl) (fun _ _ _ h => h) hS0 (by rfl) ?_ ?_
      rotate_left
      · intro w9 hSw
        try dsimp only at hSw
        obtain ⟨s0, s1⟩ := hSw
        go_simp
        try with_reducible rfl
      try simp only [Act.put, List.setIfInBounds_toArray, List.set_cons_zero, List.set_cons_succ]
      refine wpAnyE_take (i := 8) (v := ?_) rfl (by kernel_rfl) (by kernel_rfl) (by kernel_rfl) (by kernel_rfl) (by kernel_rfl) (fun _ _ _ h => h) hS0 (by rfl) ?_ ?_
      rotate_left
      · intro w9 hSw
        try dsimp only at hSw
        obtain ⟨s0, s1⟩ := hSw
        go_simp
        try with_reducible rfl
      try simp only [Act.put, List.setIfInBounds_toArray, List.set_cons_zero, List.set_cons_succ]
      refine wpAnyE_take (i := 9) (v := ?_) rfl (by kernel_rfl) (by kernel_rfl) (by kernel_rfl) (by kernel_rfl) (by kernel_rfl) (fun _ _ _ h => h) hS0 (by rfl) ?_ ?_
      rotate_left
      · intro w9 hSw
        try dsimp only at hSw
        obtain ⟨s0, s1⟩ := hSw
        go_simp
        try with_reducible rfl
      try simp only [Act.put, List.setIfInBounds_toArray, List.set_cons_zero, List.set_cons_succ]
      refine wpAnyE_take (i := 10) (v := ?_) rfl (by kernel_rfl) (by kernel_rfl) (by kernel_rfl) (by kernel_rfl) (by kernel_rfl) (fun _ _ _ h => h) hS0 (by rfl) ?_ ?_
      rotate_left
      · intro w9 hSw
        try dsimp only at hSw
        obtain ⟨s0, s1⟩ := hSw
        go_simp
        try with_reducible rfl
      try simp only [Act.put, List.setIfInBounds_toArray, List.set_cons_zero, List.set_cons_succ]
      refine wpAnyE_take (i := 11) (v := ?_) rfl (by kernel_rfl) (by kernel_rfl) (by kernel_rfl) (by kernel_rfl) (by kernel_rfl) (fun _ _ _ h => h) hS0 (by rfl) ?_ ?_
      rotate_left
      · intro w9 hSw
        try dsimp only at hSw
        obtain ⟨s0, s1⟩ := hSw
        go_simp
        try with_reducible rfl
      try simp only [Act.put, List.setIfInBounds_toArray, List.set_cons_zero, List.set_cons_succ]
      refine wpAnyE_take (i := 12) (v := ?_) rfl (by kernel_rfl) (by kernel_rfl) (by kernel_rfl) (by kernel_rfl) (by kernel_rfl) (fun _ _ _ h => h) hS0 (by rfl) ?_ ?_
      rotate_left
      · intro w9 hSw
        try dsimp only at hSw
        obtain ⟨s0, s1⟩ := hSw
        go_simp
        try with_reducible rfl
      try simp only [Act.put, List.setIfInBounds_toArray, List.set_cons_zero, List.set_cons_succ]
      refine wpAnyE_one (i := 13) rfl (by kernel_rfl) (fun K hK => ?_)
      go_simp
      refine hK.out _ _ (fun _ => ⟨z0, z1⟩) ?_
      clear hK K
      try simp only [Act.put, List.setIfInBounds_toArray, List.set_cons_zero, List.set_cons_succ]
      refine wpAnyE_one (i := 14) rfl (by kernel_rfl) (fun K hK => ?_)
      go_simp
      refine hK.out _ _ (fun _ => ⟨z0, z1⟩) ?_
      clear hK K
      try simp only [Act.put, List.setIfInBounds_toArray, List.set_cons_zero, List.set_cons_succ]
      refine wpAnyE_one (i := 15) rfl (by kernel_rfl) (fun K hK => ?_)
      go_simp
      refine hK.out _ _ (fun h => absurd rfl h) ?_
      clear hK K
      try simp only [Act.put, List.setIfInBounds_toArray, List.set_cons_zero, List.set_cons_succ]
      refine wpAnyE_done (by kernel_rfl) ?_
      go_wp2
      go_roundw
      case rel => exact ⟨k + 1, h3, hlt, by go_num, hSn'.out, hBn'.out⟩
      case measure => simp [intOf]; omega
    · obtain rfl : k = bs.length := by omega
      go_wp2
      go_ret
      exact ⟨rfl, hS.grownTo, hB⟩
set_option maxHeartbeats 4000000 in
set_option maxRecDepth 100000 in
theorem laws_below (g : Nat) (m : Int) (w : World) (hD : Die w g) (hm : 1 ≤ m) (hm2 : m ≤ 9223372036854775807) :
    Calls Try.prog 48 #[.pointer (some ⟨g, 0, none⟩), .int .i64 m] w fun e w' => ∃ x, e = .returned (.int .i64 x) ∧ 0 ≤ x ∧ x < m ∧ Die w' g ∧ w.grownBy w' (some g) := by
  obtain ⟨A, n, c, i, h, bs, hS⟩ := hD
  obtain ⟨h1, hh1⟩ : ∃ h1, IntKind.u64.wrap (h * 6364136223846793005) = h1 := ⟨_, rfl⟩
  obtain ⟨h2, hh2⟩ : ∃ h2, IntKind.u64.wrap (h1 + 1442695040888963407) = h2 := ⟨_, rfl⟩
  have hr2 := u64w (h1 + 1442695040888963407)
  rw [hh2] at hr2
  obtain ⟨e0, e1, e2, hf, hlt9⟩ := hS.cells
  have hS2 := hS.hTo h2 hr2
  have hG2 := grown_setC w ⟨g, 2, none⟩ (.int .u64 h2)
  obtain ⟨Y, hY⟩ : ∃ Y, bits BinOp.and IntKind.u64 (h2 / 8589934592) 16777215 = Y := ⟨_, rfl⟩
  have hYr : 0 ≤ Y ∧ Y ≤ 16777215 := by
    obtain ⟨q, hq⟩ := Int.eq_ofNat_of_zero_le (show 0 ≤ h2 / 8589934592 by omega)
    have hql : q < 18446744073709551616 := by omega
    have h9 := bits_and_u64_nat q 16777215 hql (by omega)
    rw [← hq] at h9
    have h8 : bits BinOp.and IntKind.u64 (h2 / 8589934592) 16777215 = ((q &&& 16777215 : Nat) : Int) := h9
    rw [hY] at h8
    have := Nat.and_le_right (n := q) (m := 16777215)
    omega
  have wY : IntKind.i64.wrap Y = Y := IntWalk.i64_in _ (by omega)
  have wm : ∀ X : Int, 0 ≤ X → IntKind.i64.wrap (Int.tmod X m) = Int.tmod X m := fun X hX => IntWalk.i64_in _ (by have := tmod_rng X m hX (by omega); omega)
  have wm' := Lib.hid wm
  have rg : ∀ X : Int, 0 ≤ X → 0 ≤ X % m ∧ X % m < m := fun X hX => ⟨Int.emod_nonneg _ (by omega), Int.emod_lt_of_pos _ (by omega)⟩
  have rg' := Lib.hid rg
  clear wm rg
  have hm0 : m ≠ 0 := by omega
  have hm1 : (m == 0) = false := by simpa using hm0
  have hi := hS.2.2.2.2.1
  obtain ⟨k, rfl⟩ := Int.eq_ofNat_of_zero_le hi.1
  have hbl := hS.2.1
  have hL0 := hS.2.2.1
  have hbvH := Lib.hid hS.2.2.2.1
  have hnb := hS.2.2.2.2.2.2
  go_enter Try.func48, Try.ntmps48
  go_wp2
  clear hY hh1 hh2 e0 e1 e2 hf hlt9 hL0
  have hS3 := hS2.drew
  have hG3 := grown_trans hG2 (grown_drew _ (some g))
  generalize w.setCell ⟨g, 2, none⟩ (.int .u64 h2) = V at *
  obtain ⟨z0, z1, _, hf, hlt9⟩ := hS3.cells
  refine wp_region_held_drew (S := fun w' => w'.cell? ⟨g, 0, none⟩ = some (.slice A n c) ∧ w'.cell? ⟨g, 1, none⟩ = some (.int .i64 (k : Nat))) (by kernel_rfl) ⟨z0, z1⟩ (fun hH => ?_)
  refine wpAnyH_take (i := 0) (oi := { dst := _, op := _, type := _, pos := _, after := _, guard := _ }) (v := ?_) rfl (by kernel_rfl) (by kernel_rfl) (by kernel_rfl) (fun _ _ _ h => h) (Or.inl ⟨by rfl, ?_⟩) hH ?_
  rotate_left
  · intro w9 hSw
    try dsimp only at hSw
    obtain ⟨s0, s1⟩ := hSw
    go_simp
    try with_reducible rfl
  try simp only [Act.put, List.setIfInBounds_toArray, List.set_cons_zero, List.set_cons_succ]
  refine wpAnyH_take (i := 1) (oi := { dst := _, op := _, type := _, pos := _, after := _, guard := _ }) (v := ?_) rfl (by kernel_rfl) (by kernel_rfl) (by kernel_rfl) (fun _ _ _ h => h) (Or.inl ⟨by rfl, ?_⟩) hH ?_
  rotate_left
  · intro w9 hSw
    try dsimp only at hSw
    obtain ⟨s0, s1⟩ := hSw
    go_simp
    try with_reducible rfl
  try simp only [Act.put, List.setIfInBounds_toArray, List.set_cons_zero, List.set_cons_succ]
  refine wpAnyH_take (i := 2) (oi := { dst := _, op := _, type := _, pos := _, after := _, guard := _ }) (v := ?_) rfl (by kernel_rfl) (by kernel_rfl) (by kernel_rfl) (fun _ _ _ h => h) (Or.inl ⟨by rfl, ?_⟩) hH ?_
  rotate_left
  · intro w9 hSw
    try dsimp only at hSw
    obtain ⟨s0, s1⟩ := hSw
    go_simp
    try with_reducible rfl
  try simp only [Act.put, List.setIfInBounds_toArray, List.set_cons_zero, List.set_cons_succ]
  refine wpAnyH_take (i := 3) (oi := { dst := _, op := _, type := _, pos := _, after := _, guard := _ }) (v := ?_) rfl (by kernel_rfl) (by kernel_rfl) (by kernel_rfl) (fun _ _ _ h => h) (Or.inl ⟨by rfl, ?_⟩) hH ?_
  rotate_left
  · intro w9 hSw
    try dsimp only at hSw
    obtain ⟨s0, s1⟩ := hSw
    go_simp
    try with_reducible rfl
  try simp only [Act.put, List.setIfInBounds_toArray, List.set_cons_zero, List.set_cons_succ]
  refine wpAnyH_take (i := 4) (oi := { dst := _, op := _, type := _, pos := _, after := _, guard := _ }) (v := ?_) rfl (by kernel_rfl) (by kernel_rfl) (by kernel_rfl) (fun _ _ _ h => h) (Or.inl ⟨by rfl, ?_⟩) hH ?_
  rotate_left
  · intro w9 hSw
    try dsimp only at hSw
    obtain ⟨s0, s1⟩ := hSw
    go_simp
    try with_reducible rfl
  try simp only [Act.put, List.setIfInBounds_toArray, List.set_cons_zero, List.set_cons_succ]
  refine wpAnyH_take (i := 5) (oi := { dst := _, op := _, type := _, pos := _, after := _, guard := _ }) (v := ?_) rfl (by kernel_rfl) (by kernel_rfl) (by kernel_rfl) (fun _ _ _ h => h) (Or.inl ⟨by rfl, ?_⟩) hH ?_
  rotate_left
  · intro w9 hSw
    try dsimp only at hSw
    obtain ⟨s0, s1⟩ := hSw
    go_simp
    try with_reducible rfl
  try simp only [Act.put, List.setIfInBounds_toArray, List.set_cons_zero, List.set_cons_succ]
  refine wpAnyH_take (i := 6) (oi := { dst := _, op := _, type := _, pos := _, after := _, guard := _ }) (v := ?_) rfl (by kernel_rfl) (by kernel_rfl) (by kernel_rfl) (fun _ _ _ h => h) (Or.inl ⟨by rfl, ?_⟩) hH ?_
  rotate_left
  · intro w9 hSw
    try dsimp only at hSw
    obtain ⟨s0, s1⟩ := hSw
    go_simp
    try with_reducible rfl
  try simp only [Act.put, List.setIfInBounds_toArray, List.set_cons_zero, List.set_cons_succ]
  refine wpAnyH_take (i := 7) (oi := { dst := _, op := _, type := _, pos := _, after := _, guard := _ }) (v := ?_) rfl (by kernel_rfl) (by kernel_rfl) (by kernel_rfl) (fun _ _ _ h => h) (Or.inl ⟨by rfl, ?_⟩) hH ?_
  rotate_left
  · intro w9 hSw
    try dsimp only at hSw
    obtain ⟨s0, s1⟩ := hSw
    go_simp
    try with_reducible rfl
  try simp only [Act.put, List.setIfInBounds_toArray, List.set_cons_zero, List.set_cons_succ]
  refine wpAnyH_take (i := 8) (oi := { dst := _, op := _, type := _, pos := _, after := _, guard := _ }) (v := ?_) rfl (by kernel_rfl) (by kernel_rfl) (by kernel_rfl) (fun _ _ _ h => h) (Or.inl ⟨by rfl, ?_⟩) hH ?_
  rotate_left
  · intro w9 hSw
    try dsimp only at hSw
    obtain ⟨s0, s1⟩ := hSw
    go_simp
    try with_reducible rfl
  try simp only [Act.put, List.setIfInBounds_toArray, List.set_cons_zero, List.set_cons_succ]
  refine wpAnyH_take (i := 9) (oi := { dst := _, op := _, type := _, pos := _, after := _, guard := _ }) (v := ?_) rfl (by kernel_rfl) (by kernel_rfl) (by kernel_rfl) (fun _ _ _ h => h) (Or.inl ⟨by rfl, ?_⟩) hH ?_
  rotate_left
  · intro w9 hSw
    try dsimp only at hSw
    obtain ⟨s0, s1⟩ := hSw
    go_simp
    try with_reducible rfl
  try simp only [Act.put, List.setIfInBounds_toArray, List.set_cons_zero, List.set_cons_succ]
  refine wpAnyH_done (by kernel_rfl) ?_ _
  clear hH hS hS2 hG2
  generalize V.drew = V at *
  by_cases hlt : k < n
  · obtain ⟨b, off, hA, hb, hc⟩ := bytes_at hS3.2.2.1 k (by omega)
    cases hA
    have hbb := hbvH.out _ (List.getElem_mem (show k < bs.length by omega))
    obtain ⟨bv, hbvd⟩ : ∃ bv, bs[k] = bv := ⟨_, rfl⟩
    rw [hbvd] at hc hbb
    clear hbvd
    have w5 : IntKind.i64.wrap bv = bv := IntWalk.i64_in _ (by omega)
    have w6 : IntKind.i64.wrap (Y + bv) = Y + bv := IntWalk.i64_in _ (by omega)
    have w7 : IntKind.i64.wrap ((k : Int) + 1) = (k : Int) + 1 := IntWalk.i64_in _ (by omega)
    have i1 : (0 : Int) ≤ (k : Int) := by omega
    have i2 : (k : Int) < (n : Int) := by omega
    have hX := wm'.out (Y + bv) (by omega)
    have hXr := Lib.hid (rg'.out (Y + bv) (by omega))
    have hS4 := hS3.drew
    have hG4 := grown_trans hG3 (grown_drew _ (some g))
    have hS5 := Lib.hid (hS4.iTo ((k : Int) + 1) (by omega))
    have hG5 := Lib.hid (grown_trans hG4 (grown_setC V.drew ⟨g, 1, none⟩ (.int .i64 ((k : Int) + 1))))
    have y2 := cell_keep hc (Below.drew (Below.refl _ V))
    go_wp2
    clear z0 z1 hf hlt9
    obtain ⟨y0, y1, _, hf, hlt9⟩ := hS4.cells
    refine wp_region_held_drew (S := fun w' => w'.cell? ⟨g, 0, none⟩ = some (.slice (some ⟨b, off, none⟩) n c) ∧ w'.cell? ⟨g, 1, none⟩ = some (.int .i64 (k : Nat)) ∧ w'.cell? ⟨b, off + k, none⟩ = some (.int .u8 bv)) (by kernel_rfl) ⟨y0, y1, y2⟩ (fun hH => ?_)
    refine wpAnyH_take (i := 0) (oi := { dst := _, op := _, type := _, pos := _, after := _, guard := _ }) (v := ?_) rfl (by kernel_rfl) (by kernel_rfl) (by kernel_rfl) (fun _ _ _ h => h) (Or.inl ⟨by rfl, ?_⟩) hH ?_
    rotate_left
    · intro w9 hSw
      try dsimp only at hSw
      obtain ⟨s0, s1, s2⟩ := hSw
      go_simp
      try with_reducible rfl
    try simp only [Act.put, List.setIfInBounds_toArray, List.set_cons_zero, List.set_cons_succ]
    refine wpAnyH_take (i := 1) (oi := { dst := _, op := _, type := _, pos := _, after := _, guard := _ }) (v := ?_) rfl (by kernel_rfl) (by kernel_rfl) (by kernel_rfl) (fun _ _ _ h => h) (Or.inl ⟨by rfl, ?_⟩) hH ?_
    rotate_left
    · intro w9 hSw
      try dsimp only at hSw
      obtain ⟨s0, s1, s2⟩ := hSw
      go_simp
      try with_reducible rfl
    try simp only [Act.put, List.setIfInBounds_toArray, List.set_cons_zero, List.set_cons_succ]
    refine wpAnyH_take (i := 2) (oi := { dst := _, op := _, type := _, pos := _, after := _, guard := _ }) (v := ?_) rfl (by kernel_rfl) (by kernel_rfl) (by kernel_rfl) (fun _ _ _ h => h) (Or.inl ⟨by rfl, ?_⟩) hH ?_
    rotate_left
    · intro w9 hSw
      try dsimp only at hSw
      obtain ⟨s0, s1, s2⟩ := hSw
      go_simp
      try with_reducible rfl
    try simp only [Act.put, List.setIfInBounds_toArray, List.set_cons_zero, List.set_cons_succ]
    refine wpAnyH_take (i := 3) (oi := { dst := _, op := _, type := _, pos := _, after := _, guard := _ }) (v := ?_) rfl (by kernel_rfl) (by kernel_rfl) (by kernel_rfl) (fun _ _ _ h => h) (Or.inl ⟨by rfl, ?_⟩) hH ?_
    rotate_left
    · intro w9 hSw
      try dsimp only at hSw
      obtain ⟨s0, s1, s2⟩ := hSw
      go_simp
      try with_reducible rfl
    try simp only [Act.put, List.setIfInBounds_toArray, List.set_cons_zero, List.set_cons_succ]
    refine wpAnyH_take (i := 4) (oi := { dst := _, op := _, type := _, pos := _, after := _, guard := _ }) (v := ?_) rfl (by kernel_rfl) (by kernel_rfl) (by kernel_rfl) (fun _ _ _ h => h) (Or.inl ⟨by rfl, ?_⟩) hH ?_
    rotate_left
    · intro w9 hSw
      try dsimp only at hSw
      obtain ⟨s0, s1, s2⟩ := hSw
      go_simp
      try with_reducible rfl
    try simp only [Act.put, List.setIfInBounds_toArray, List.set_cons_zero, List.set_cons_succ]
    refine wpAnyH_take (i := 5) (oi := { dst := _, op := _, type := _, pos := _, after := _, guard := _ }) (v := ?_) rfl (by kernel_rfl) (by kernel_rfl) (by kernel_rfl) (fun _ _ _ h => h) (Or.inl ⟨by rfl, ?_⟩) hH ?_
    rotate_left
    · intro w9 hSw
      try dsimp only at hSw
      obtain ⟨s0, s1, s2⟩ := hSw
      go_simp
      try with_reducible rfl
    try simp only [Act.put, List.setIfInBounds_toArray, List.set_cons_zero, List.set_cons_succ]
    refine wpAnyH_take (i := 6) (oi := { dst := _, op := _, type := _, pos := _, after := _, guard := _ }) (v := ?_) rfl (by kernel_rfl) (by kernel_rfl) (by kernel_rfl) (fun _ _ _ h => h) (Or.inl ⟨by rfl, ?_⟩) hH ?_
    rotate_left
    · intro w9 hSw
      try dsimp only at hSw
      obtain ⟨s0, s1, s2⟩ := hSw
      go_simp
      try with_reducible rfl
    try simp only [Act.put, List.setIfInBounds_toArray, List.set_cons_zero, List.set_cons_succ]
    refine wpAnyH_take (i := 7) (oi := { dst := _, op := _, type := _, pos := _, after := _, guard := _ }) (v := ?_) rfl (by kernel_rfl) (by kernel_rfl) (by kernel_rfl) (fun _ _ _ h => h) (Or.inl ⟨by rfl, ?_⟩) hH ?_
    rotate_left
    · intro w9 hSw
      try dsimp only at hSw
      obtain ⟨s0, s1, s2⟩ := hSw
      go_simp
      try with_reducible rfl
    try simp only [Act.put, List.setIfInBounds_toArray, List.set_cons_zero, List.set_cons_succ]
    refine wpAnyH_take (i := 8) (oi := { dst := _, op := _, type := _, pos := _, after := _, guard := _ }) (v := ?_) rfl (by kernel_rfl) (by kernel_rfl) (by kernel_rfl) (fun _ _ _ h => h) (Or.inl ⟨by rfl, ?_⟩) hH ?_
    rotate_left
    · intro w9 hSw
      try dsimp only at hSw
      obtain ⟨s0, s1, s2⟩ := hSw
      go_simp
      try with_reducible rfl
    try simp only [Act.put, List.setIfInBounds_toArray, List.set_cons_zero, List.set_cons_succ]
    refine wpAnyH_take (i := 9) (oi := { dst := _, op := _, type := _, pos := _, after := _, guard := _ }) (v := ?_) rfl (by kernel_rfl) (by kernel_rfl) (by kernel_rfl) (fun _ _ _ h => h) (Or.inl ⟨by rfl, ?_⟩) hH ?_
    rotate_left
    · intro w9 hSw
      try dsimp only at hSw
      obtain ⟨s0, s1, s2⟩ := hSw
      go_simp
      try with_reducible rfl
    try simp only [Act.put, List.setIfInBounds_toArray, List.set_cons_zero, List.set_cons_succ]
    refine wpAnyH_take (i := 10) (oi := { dst := _, op := _, type := _, pos := _, after := _, guard := _ }) (v := ?_) rfl (by kernel_rfl) (by kernel_rfl) (by kernel_rfl) (fun _ _ _ h => h) (Or.inl ⟨by rfl, ?_⟩) hH ?_
    rotate_left
    · intro w9 hSw
      try dsimp only at hSw
      obtain ⟨s0, s1, s2⟩ := hSw
      go_simp
      try with_reducible rfl
    try simp only [Act.put, List.setIfInBounds_toArray, List.set_cons_zero, List.set_cons_succ]
    refine wpAnyH_take (i := 11) (oi := { dst := _, op := _, type := _, pos := _, after := _, guard := _ }) (v := ?_) rfl (by kernel_rfl) (by kernel_rfl) (by kernel_rfl) (fun _ _ _ h => h) (Or.inl ⟨by rfl, ?_⟩) hH ?_
    rotate_left
    · intro w9 hSw
      try dsimp only at hSw
      obtain ⟨s0, s1, s2⟩ := hSw
      go_simp
      try with_reducible rfl
    try simp only [Act.put, List.setIfInBounds_toArray, List.set_cons_zero, List.set_cons_succ]
    refine wpAnyH_take (i := 12) (oi := { dst := _, op := _, type := _, pos := _, after := _, guard := _ }) (v := ?_) rfl (by kernel_rfl) (by kernel_rfl) (by kernel_rfl) (fun _ _ _ h => h) (Or.inl ⟨by rfl, ?_⟩) hH ?_
    rotate_left
    · intro w9 hSw
      try dsimp only at hSw
      obtain ⟨s0, s1, s2⟩ := hSw
      go_simp
      try with_reducible rfl
    try simp only [Act.put, List.setIfInBounds_toArray, List.set_cons_zero, List.set_cons_succ]
    refine wpAnyH_take (i := 13) (oi := { dst := _, op := _, type := _, pos := _, after := _, guard := _ }) (v := ?_) rfl (by kernel_rfl) (by kernel_rfl) (by kernel_rfl) (fun _ _ _ h => h) (Or.inl ⟨by rfl, ?_⟩) hH ?_
    rotate_left
    · intro w9 hSw
      try dsimp only at hSw
      obtain ⟨s0, s1, s2⟩ := hSw
      go_simp
      try with_reducible rfl
    try simp only [Act.put, List.setIfInBounds_toArray, List.set_cons_zero, List.set_cons_succ]
    refine wpAnyH_done (by kernel_rfl) ?_ _
    clear hS4 hG4 hH
    go_wp2
    go_ret
    exact ⟨_, rfl, hXr.out.1, hXr.out.2, hS5.out.grownTo, hG5.out⟩
  · have hX := wm'.out Y (by omega)
    have hXr := Lib.hid (rg'.out Y (by omega))
    go_wp2
    go_ret
    exact ⟨_, rfl, hXr.out.1, hXr.out.2, hS3.grownTo, hG3⟩
end Go.Proofs.Ytkbhbmoogkjafaa
