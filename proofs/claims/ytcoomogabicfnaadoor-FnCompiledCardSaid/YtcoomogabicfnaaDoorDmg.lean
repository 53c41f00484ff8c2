/-
  The draw of a damaged text.
-/
import Derived.Test.YtcoomogabicfnaaDoorSrc
import Derived.Test.YtcoomogabicfnaaDoorSplit
namespace Go.Proofs.YtcoomogabicfnaaDoor
open Go.RowKit
set_option linter.unusedVariables false
set_option linter.unusedSimpArgs false
def strs8 : List ByteArray := [⟨#[48]⟩, ⟨#[49]⟩, ⟨#[32]⟩, ⟨#[45]⟩, ⟨#[46]⟩, ⟨#[44]⟩, ⟨#[10]⟩, ⟨#[59]⟩]
theorem strs8_len : strs8.length = 8 := rfl
theorem strs8_size (k : Nat) (h : k < strs8.length) : strs8[k].size = 1 := by
  have : ∀ x ∈ strs8, x.size = 1 := by decide
  exact this _ (List.getElem_mem h)
theorem ex_size (s : ByteArray) (a b : Nat) (h : a ≤ b) (hb : b ≤ s.size) : (s.extract a b).size = b - a := by
  rw [ByteArray.size_extract]
  omega
theorem below_grown {w w' : World} (h : Below w.heap.size w w') (g : Nat) : w.grownBy w' (some g) := ⟨h.os, h.tape, h.output, h.size, fun k hk _ => h.block k hk⟩
set_option maxHeartbeats 8000000 in
set_option maxRecDepth 100000 in
theorem spec_l01Damage (g : Nat) (s : ByteArray) (w : World) (h : Src w g) (hs : s.size ≤ 100000000) :
    Calls Tryd.prog 34 #[.pointer (some ⟨g, 0, none⟩), .string s] w fun e w' => ∃ t : ByteArray, e = .returned (.string t) ∧ t.size ≤ s.size + 1 ∧ Drawn w g w' := by
  have q0 : IntKind.i64.wrap ((s.size : Int) + 1) = (s.size : Int) + 1 := IntWalk.i64_in _ (by omega)
  go_enter Tryd.func34, Tryd.ntmps34
  go_wp2_with fail
  refine (spec_l01Next g _ w h (by omega)).mono ?_
  rintro e w1 ⟨k, rfl, hk, hN1⟩
  obtain ⟨k, rfl⟩ := Int.eq_ofNat_of_zero_le hk.1
  have hks : k ≤ s.size := by
    by_cases h0 : (s.size : Int) + 1 ≤ 1
    · have := hk.2.2 h0; omega
    · have := hk.2.1 (by omega); omega
  go_wp2_with fail
  refine (spec_l01Next g _ w1 hN1.1 (by omega)).mono ?_
  rintro e w2 ⟨x, rfl, hx, hN2⟩
  have hS2 := hN2.1
  have hG2 := grown_trans hN1.2 hN2.2
  have ex0_size : (s.extract 0 k).size = k := by rw [ex_size _ _ _ (by omega) hks]; omega
  have ex1_size : (s.extract k s.size).size = s.size - k := ex_size _ _ _ hks (Nat.le_refl _)
  have i0 : (0 : Int) ≤ (k : Int) := by omega
  have i1 : (k : Int) ≤ (s.size : Int) := by omega
  clear hN1 hN2 hk q0
  have hx0 := hx.1
  clear hx
  by_cases h0 : x = 0
  · subst h0
    go_wp2
    go_ret
    exact ⟨_, rfl, by rw [ex0_size]; omega, hS2, hG2⟩
  · by_cases h1 : x = 1
    · subst h1
      have hS2d : Src w2.drew g := hS2.now (Below.drew (Below.refl _ w2))
      go_wp2
      refine wp_region_held_drew (S := fun w' => True) (by kernel_rfl) trivial (fun hH => ?_)
      refine tkH 0 (v := ?_) rfl (fun _ _ _ h => h) (Or.inl ⟨by rfl, ?_⟩) hH ?_
      rotate_left
      · intro w9 hSw
        try dsimp only at hSw
        obtain s0 := hSw
        go_simp
        try with_reducible rfl
      try simp only [Act.put, List.setIfInBounds_toArray, List.set_cons_zero, List.set_cons_succ]
      refine tkH 1 (v := ?_) rfl (fun _ _ _ h => h) (Or.inl ⟨by rfl, ?_⟩) hH ?_
      rotate_left
      · intro w9 hSw
        try dsimp only at hSw
        obtain s0 := hSw
        go_simp
        try with_reducible rfl
      try simp only [Act.put, List.setIfInBounds_toArray, List.set_cons_zero, List.set_cons_succ]
      refine tkH 2 (v := ?_) rfl (fun _ _ _ h => h) (Or.inl ⟨by rfl, ?_⟩) hH ?_
      rotate_left
      · intro w9 hSw
        try dsimp only at hSw
        obtain s0 := hSw
        go_simp
        try with_reducible rfl
      try simp only [Act.put, List.setIfInBounds_toArray, List.set_cons_zero, List.set_cons_succ]
      refine tkH 4 (v := ?_) rfl (fun _ _ _ h => h) (Or.inl ⟨by rfl, ?_⟩) hH ?_
      rotate_left
      · intro w9 hSw
        try dsimp only at hSw
        obtain s0 := hSw
        go_simp
        try with_reducible rfl
      try simp only [Act.put, List.setIfInBounds_toArray, List.set_cons_zero, List.set_cons_succ]
      refine tkH 9 (v := ?_) rfl (fun _ _ _ h => h) (Or.inl ⟨by rfl, ?_⟩) hH ?_
      rotate_left
      · intro w9 hSw
        try dsimp only at hSw
        obtain s0 := hSw
        go_simp
        try with_reducible rfl
      try simp only [Act.put, List.setIfInBounds_toArray, List.set_cons_zero, List.set_cons_succ]
      refine tkH 10 (v := ?_) rfl (fun _ _ _ h => h) (Or.inl ⟨by rfl, ?_⟩) hH ?_
      rotate_left
      · intro w9 hSw
        try dsimp only at hSw
        obtain s0 := hSw
        go_simp
        try with_reducible rfl
      try simp only [Act.put, List.setIfInBounds_toArray, List.set_cons_zero, List.set_cons_succ]
      refine tkH 11 (v := ?_) rfl (fun _ _ _ h => h) (Or.inl ⟨by rfl, ?_⟩) hH ?_
      rotate_left
      · intro w9 hSw
        try dsimp only at hSw
        obtain s0 := hSw
        go_simp
        try with_reducible rfl
      try simp only [Act.put, List.setIfInBounds_toArray, List.set_cons_zero, List.set_cons_succ]
      refine wpAnyH_ready (rs := [3, 5]) (by kernel_rfl) (by simp) ?_
      refine AllReadyH.cons rfl (fun K hK => ?_) (AllReadyH.cons rfl (fun K hK => ?_) AllReadyH.nil)
      · have hA : Below w2.drew.heap.size w2.drew (w2.drew.alloc (.cells #[.string ⟨#[48]⟩, .string ⟨#[49]⟩, .string ⟨#[32]⟩, .string ⟨#[45]⟩, .string ⟨#[46]⟩, .string ⟨#[44]⟩, .string ⟨#[10]⟩, .string ⟨#[59]⟩] 9)) := (Below.refl _ _).alloc (Nat.le_refl _) _
        have hOs : Own strCell 1 9 (w2.drew.alloc (.cells #[.string ⟨#[48]⟩, .string ⟨#[49]⟩, .string ⟨#[32]⟩, .string ⟨#[45]⟩, .string ⟨#[46]⟩, .string ⟨#[44]⟩, .string ⟨#[10]⟩, .string ⟨#[59]⟩] 9)) w2.heap.size (.slice (some ⟨w2.heap.size, 0, none⟩) 8 8) strs8 := own_strs w2.drew _ (Nat.le_refl _) strs8 (by decide)
        have hSA := hS2d.now hA
        go_simp
        refine hK.out _ _ trivial (fun hH => ?_)
        clear hK K
        try simp only [Act.put, List.setIfInBounds_toArray, List.set_cons_zero, List.set_cons_succ]
        refine wpAnyH_ready (rs := [5]) (by kernel_rfl) (by simp) ?_
        refine AllReadyH.cons rfl (fun K hK => ?_) AllReadyH.nil
        go_simp
        go_at_call 33
        refine (spec_l01Next g 8 _ hSA (by omega)).mono ?_
        rintro e5 w5 ⟨y, rfl, hy, hN⟩
        obtain ⟨yn, rfl⟩ := Int.eq_ofNat_of_zero_le hy.1
        have hy8 := hy.2.1 (by omega)
        have hyl : yn < strs8.length := by simp only [strs8_len]; omega
        replace hOs := own_draw hOs (by decide) hSA hN
        obtain ⟨sb, so, hsA, hsb, c0⟩ := strs_at hOs.lst yn hyl
        cases hsA
        rw [Nat.zero_add] at c0
        have hsz8 := strs8_size yn hyl
        obtain ⟨d8, hd8⟩ : ∃ d8, strs8[yn] = d8 := ⟨_, rfl⟩
        rw [hd8] at c0 hsz8
        have hE := hN.1
        have hG := grown_trans (grown_trans (grown_drew w2 (some g)) (below_grown hA g)) hN.2
        clear hN hOs hd8 hy hSA hA
        refine hK.out _ _ trivial (fun hH => ?_)
        clear hK K
        try simp only [Act.put, List.setIfInBounds_toArray, List.set_cons_zero, List.set_cons_succ]
        have j1 : (0 : Int) ≤ (yn : Int) := by omega
        have j2 : (yn : Int) < 8 := hy8
        have q4 : ¬ 9223372036854775807 < k + 1 := by omega
        have q5 : ¬ 9223372036854775807 < k + 1 + (s.size - k) := by omega
        have q2 : ¬ 9223372036854775807 < (s.extract 0 k).size + d8.size := by rw [ex0_size]; omega
        have q3 : ¬ 9223372036854775807 < ((s.extract 0 k) ++ d8).size + (s.extract k s.size).size := by rw [ByteArray.size_append, ex0_size, ex1_size]; omega
        refine wpAnyH_ready (rs := [6]) (by kernel_rfl) (by simp) ?_
        refine AllReadyH.cons rfl (fun K hK => ?_) AllReadyH.nil
        go_simp
        refine hK.out _ _ trivial (fun hH => ?_)
        clear hK K
        try simp only [Act.put, List.setIfInBounds_toArray, List.set_cons_zero, List.set_cons_succ]
        refine wpAnyH_ready (rs := [7]) (by kernel_rfl) (by simp) ?_
        refine AllReadyH.cons rfl (fun K hK => ?_) AllReadyH.nil
        go_simp
        refine hK.out _ _ trivial (fun hH => ?_)
        clear hK K
        try simp only [Act.put, List.setIfInBounds_toArray, List.set_cons_zero, List.set_cons_succ]
        refine wpAnyH_ready (rs := [8]) (by kernel_rfl) (by simp) ?_
        refine AllReadyH.cons rfl (fun K hK => ?_) AllReadyH.nil
        go_simp
        refine hK.out _ _ trivial (fun hH => ?_)
        clear hK K
        try simp only [Act.put, List.setIfInBounds_toArray, List.set_cons_zero, List.set_cons_succ]
        refine wpAnyH_ready (rs := [12]) (by kernel_rfl) (by simp) ?_
        refine AllReadyH.cons rfl (fun K hK => ?_) AllReadyH.nil
        go_simp
        refine hK.out _ _ trivial (fun hH => ?_)
        clear hK K
        try simp only [Act.put, List.setIfInBounds_toArray, List.set_cons_zero, List.set_cons_succ]
        refine wpAnyH_ready (rs := [13]) (by kernel_rfl) (by simp) ?_
        refine AllReadyH.cons rfl (fun K hK => ?_) AllReadyH.nil
        go_simp
        refine hK.out _ _ trivial (fun hH => ?_)
        clear hK K
        try simp only [Act.put, List.setIfInBounds_toArray, List.set_cons_zero, List.set_cons_succ]
        refine wpAnyH_done (by kernel_rfl) ?_ _
        go_wp2
        go_ret
        exact ⟨_, rfl, by rw [ByteArray.size_append, ByteArray.size_append, ex0_size, ex1_size]; omega, hE, grown_trans hG2 hG⟩
      · go_simp
        go_at_call 33
        refine (spec_l01Next g 8 _ hS2d (by omega)).mono ?_
        rintro e5 w5 ⟨y, rfl, hy, hN⟩
        obtain ⟨yn, rfl⟩ := Int.eq_ofNat_of_zero_le hy.1
        have hy8 := hy.2.1 (by omega)
        have hyl : yn < strs8.length := by simp only [strs8_len]; omega
        have hE := hN.1
        have hG := grown_trans (grown_drew w2 (some g)) hN.2
        have hA : Below w5.heap.size w5 (w5.alloc (.cells #[.string ⟨#[48]⟩, .string ⟨#[49]⟩, .string ⟨#[32]⟩, .string ⟨#[45]⟩, .string ⟨#[46]⟩, .string ⟨#[44]⟩, .string ⟨#[10]⟩, .string ⟨#[59]⟩] 9)) := (Below.refl _ _).alloc (Nat.le_refl _) _
        have hOs : Own strCell 1 9 (w5.alloc (.cells #[.string ⟨#[48]⟩, .string ⟨#[49]⟩, .string ⟨#[32]⟩, .string ⟨#[45]⟩, .string ⟨#[46]⟩, .string ⟨#[44]⟩, .string ⟨#[10]⟩, .string ⟨#[59]⟩] 9)) w5.heap.size (.slice (some ⟨w5.heap.size, 0, none⟩) 8 8) strs8 := own_strs w5 _ (Nat.le_refl _) strs8 (by decide)
        obtain ⟨sb, so, hsA, hsb, c0⟩ := strs_at hOs.lst yn hyl
        cases hsA
        rw [Nat.zero_add] at c0
        have hsz8 := strs8_size yn hyl
        obtain ⟨d8, hd8⟩ : ∃ d8, strs8[yn] = d8 := ⟨_, rfl⟩
        rw [hd8] at c0 hsz8
        clear hN hOs hd8 hy
        refine hK.out _ _ trivial (fun hH => ?_)
        clear hK K
        try simp only [Act.put, List.setIfInBounds_toArray, List.set_cons_zero, List.set_cons_succ]
        refine wpAnyH_ready (rs := [3]) (by kernel_rfl) (by simp) ?_
        refine AllReadyH.cons rfl (fun K hK => ?_) AllReadyH.nil
        go_simp
        refine hK.out _ _ trivial (fun hH => ?_)
        clear hK K
        try simp only [Act.put, List.setIfInBounds_toArray, List.set_cons_zero, List.set_cons_succ]
        replace hE := hE.now hA
        replace hG := grown_trans hG (below_grown hA g)
        clear hA
        generalize (w5.alloc (.cells #[.string ⟨#[48]⟩, .string ⟨#[49]⟩, .string ⟨#[32]⟩, .string ⟨#[45]⟩, .string ⟨#[46]⟩, .string ⟨#[44]⟩, .string ⟨#[10]⟩, .string ⟨#[59]⟩] 9)) = w7 at *
        have j1 : (0 : Int) ≤ (yn : Int) := by omega
        have j2 : (yn : Int) < 8 := hy8
        have q4 : ¬ 9223372036854775807 < k + 1 := by omega
        have q5 : ¬ 9223372036854775807 < k + 1 + (s.size - k) := by omega
        have q2 : ¬ 9223372036854775807 < (s.extract 0 k).size + d8.size := by rw [ex0_size]; omega
        have q3 : ¬ 9223372036854775807 < ((s.extract 0 k) ++ d8).size + (s.extract k s.size).size := by rw [ByteArray.size_append, ex0_size, ex1_size]; omega
        refine wpAnyH_ready (rs := [6]) (by kernel_rfl) (by simp) ?_
        refine AllReadyH.cons rfl (fun K hK => ?_) AllReadyH.nil
        go_simp
        refine hK.out _ _ trivial (fun hH => ?_)
        clear hK K
        try simp only [Act.put, List.setIfInBounds_toArray, List.set_cons_zero, List.set_cons_succ]
        refine wpAnyH_ready (rs := [7]) (by kernel_rfl) (by simp) ?_
        refine AllReadyH.cons rfl (fun K hK => ?_) AllReadyH.nil
        go_simp
        refine hK.out _ _ trivial (fun hH => ?_)
        clear hK K
        try simp only [Act.put, List.setIfInBounds_toArray, List.set_cons_zero, List.set_cons_succ]
        refine wpAnyH_ready (rs := [8]) (by kernel_rfl) (by simp) ?_
        refine AllReadyH.cons rfl (fun K hK => ?_) AllReadyH.nil
        go_simp
        refine hK.out _ _ trivial (fun hH => ?_)
        clear hK K
        try simp only [Act.put, List.setIfInBounds_toArray, List.set_cons_zero, List.set_cons_succ]
        refine wpAnyH_ready (rs := [12]) (by kernel_rfl) (by simp) ?_
        refine AllReadyH.cons rfl (fun K hK => ?_) AllReadyH.nil
        go_simp
        refine hK.out _ _ trivial (fun hH => ?_)
        clear hK K
        try simp only [Act.put, List.setIfInBounds_toArray, List.set_cons_zero, List.set_cons_succ]
        refine wpAnyH_ready (rs := [13]) (by kernel_rfl) (by simp) ?_
        refine AllReadyH.cons rfl (fun K hK => ?_) AllReadyH.nil
        go_simp
        refine hK.out _ _ trivial (fun hH => ?_)
        clear hK K
        try simp only [Act.put, List.setIfInBounds_toArray, List.set_cons_zero, List.set_cons_succ]
        refine wpAnyH_done (by kernel_rfl) ?_ _
        go_wp2
        go_ret
        exact ⟨_, rfl, by rw [ByteArray.size_append, ByteArray.size_append, ex0_size, ex1_size]; omega, hE, grown_trans hG2 hG⟩
    · by_cases h2 : x = 2
      · subst h2
        by_cases hkl : k < s.size
        · have i2 : (k : Int) < (s.size : Int) := by omega
          have i3 : IntKind.i64.wrap ((k : Int) + 1) = (k : Int) + 1 := IntWalk.i64_in _ (by omega)
          have i4 : (k : Int) + 1 ≤ (s.size : Int) := by omega
          have ex2_size : (s.extract (k + 1) s.size).size = s.size - (k + 1) := ex_size _ _ _ (by omega) (Nat.le_refl _)
          have q4 : ¬ 9223372036854775807 < k + (s.size - (k + 1)) := by omega
          go_wp2
          go_region
          go_wp2
          go_ret
          exact ⟨_, rfl, by rw [ByteArray.size_append, ex0_size, ex2_size]; omega, by first | exact hS2 | exact hS2.now (Below.drew (Below.refl _ w2)), by first | exact hG2 | exact grown_trans hG2 (grown_drew w2 (some g))⟩
        · have i2 : ¬ (k : Int) < (s.size : Int) := by omega
          go_wp2
          go_ret
          exact ⟨_, rfl, by omega, hS2, hG2⟩
      · have n0 : (x == 0) = false := by simpa using h0
        have n1 : (x == 1) = false := by simpa using h1
        have n2 : (x == 2) = false := by simpa using h2
        clear h0 h1 h2
        go_wp2
        go_ret
        exact ⟨_, rfl, by omega, hS2, hG2⟩
end Go.Proofs.YtcoomogabicfnaaDoor
