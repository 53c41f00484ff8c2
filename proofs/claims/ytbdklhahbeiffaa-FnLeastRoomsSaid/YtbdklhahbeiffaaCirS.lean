/-
  The walks of the reference's search of circuits.
-/
import Derived.Test.YtbdklhahbeiffaaCirQ
import Derived.Test.YtbdklhahbeiffaaDist
namespace Go.Proofs.Ytbdklhahbeiffaa
open Go.RowKit
set_option linter.unusedVariables false
set_option linter.unusedSimpArgs false

theorem visB_take' {gp : List Place} {p : List Nat} {e : Int} (h : ∀ y ∈ p, (pl gp y).src ≠ e ∧ (pl gp y).dst ≠ e) : visB gp p e = false := visB_take fun j hj => h _ (List.getElem_mem hj)
theorem grow_next {gp : List Place} {a bb ov la fi : Int} {path : List Nat} {u : Nat}
    (hN : ∀ x, x < u → (pl gp x).src = la → fi ≤ (pl gp x).dst → ((pl gp x).dst = fi ∨ ∀ y ∈ path, (pl gp y).src ≠ (pl gp x).dst ∧ (pl gp y).dst ≠ (pl gp x).dst) → BarrenC gp a bb ov (path ++ [x]))
    (hb : (pl gp u).src = la → fi ≤ (pl gp u).dst → ((pl gp u).dst = fi ∨ ∀ y ∈ path, (pl gp y).src ≠ (pl gp u).dst ∧ (pl gp y).dst ≠ (pl gp u).dst) → BarrenC gp a bb ov (path ++ [u])) :
    ∀ x, x < u + 1 → (pl gp x).src = la → fi ≤ (pl gp x).dst → ((pl gp x).dst = fi ∨ ∀ y ∈ path, (pl gp y).src ≠ (pl gp x).dst ∧ (pl gp y).dst ≠ (pl gp x).dst) → BarrenC gp a bb ov (path ++ [x]) := by
  intro x hx
  by_cases e : x = u
  · subst e; exact hb
  · exact hN x (by omega)
set_option maxHeartbeats 4000000 in
set_option maxRecDepth 100000 in
theorem spec_l15Visits (v : Value) (ge : Int) (gp : List Place) (u : Value) (p : List Nat) (ev : Int) (w : World) (h0 : Lst Place.cells 4 w w.heap.size v gp) (h1 : Lst intCell 1 w w.heap.size u (ints p)) (hall : Hid (∀ x ∈ p, x < gp.length)) (hpb : p.length ≤ 1048576) :
    Calls Try.prog 183 #[.agg #[.int .i64 ge, v], u, .int .i64 ev] w fun e w' => e = .returned (.bool (visB gp p ev)) ∧ Below w.heap.size w w' := by
  obtain ⟨A, c, rfl⟩ := h0.shape
  obtain ⟨C, dd, rfl⟩ := h1.shape
  have hgl := h0.len_le
  rw [ints_len] at h1 ⊢
  go_enter Try.func183, Try.ntmps183
  go_wp2
  have hW : Below w.heap.size w (w.alloc (.cells #[.int .i64 ge, .slice A gp.length c] 32)) := (Below.refl _ _).alloc (Nat.le_refl _) _; have hb0 : Blk (w.alloc (.cells #[.int .i64 ge, .slice A gp.length c] 32)) w.heap.size 32 #[.int .i64 ge, .slice A gp.length c] := Blk.new _ _ _; replace h0 := h0.now hW; replace h1 := h1.now hW; generalize (w.alloc (.cells #[.int .i64 ge, .slice A gp.length c] 32)) = W at *
  go_loopw [7] (fun i wr => ∃ k : Nat, k ≤ p.length ∧ i = .int .i64 k ∧ Hid (∀ j (hj : j < p.length), j < k → (pl gp p[j]).src ≠ ev ∧ (pl gp p[j]).dst ≠ ev) ∧ Below W.heap.size W wr) (fun i _ => p.length - (intOf i).toNat)
  case atStart => exact ⟨0, Nat.zero_le _, rfl, fun j _ hj => absurd hj (by omega), Below.refl _ _⟩
  case round =>
    obtain ⟨k, hk, rfl, hN, hB⟩ := hrel
    by_cases hlt : k < p.length
    · obtain ⟨k0, k1⟩ := (hb0.now hB).c2
      obtain ⟨b2, off2, hb2, hbb2, e0⟩ := ints_at (h1.now hB) k (by rw [ints_len]; exact hlt)
      cases hb2
      rw [ints_get _ _ _ hlt] at e0
      obtain ⟨q, hq⟩ : ∃ q, p[k] = q := ⟨_, rfl⟩
      have hql : q < gp.length := by rw [← hq]; exact hall.out _ (List.getElem_mem hlt)
      rw [hq] at e0
      obtain ⟨b, off, hb1, hbb, d0, d1, d2, d3⟩ := places_at (h0.now hB) q hql
      cases hb1
      obtain ⟨sr, hsr⟩ : ∃ sr, gp[q].src = sr := ⟨_, rfl⟩
      obtain ⟨ds, hds⟩ : ∃ ds, gp[q].dst = ds := ⟨_, rfl⟩
      rw [hsr] at d0
      rw [hds] at d1
      have hps : Hid ((pl gp p[k]).src = sr ∧ (pl gp p[k]).dst = ds) := by rw [hq, pl_at hql]; exact ⟨hsr, hds⟩
      clear hsr hds hq d2 d3 hbb hbb2
      have hBd : Below wr.heap.size wr wr.drew := Below.drew (Below.refl _ wr)
      replace k1 := cell_keep k1 hBd
      replace e0 := cell_keep e0 hBd
      replace d0 := cell_keep d0 hBd
      replace d1 := cell_keep d1 hBd
      have hBt := hB.trans (hBd.mono hB.size)
      have i1 : (0 : Int) ≤ (k : Int) := by omega
      have i2 : (k : Int) < (p.length : Int) := by omega
      have i3 : (0 : Int) ≤ (q : Int) := by omega
      have i4 : (q : Int) < (gp.length : Int) := by omega
      clear hB k0
      by_cases hs : sr = ev
      · have q1 : (sr == ev) = true := by simp [hs]
        have hF : Hid (visB gp p ev = true) := visB_at hlt (.inl (hps.out.1.trans hs))
        clear hs
        go_wp2_with fail
        refine wp_region_held_drew (S := fun w' => w'.cell? ⟨w.heap.size, 1, none⟩ = some (.slice (some ⟨b, off, none⟩) gp.length c) ∧ w'.cell? ⟨b2, off2 + k, none⟩ = some (.int .i64 (q : Nat)) ∧ w'.cell? ⟨b, off + q * 4, none⟩ = some (.int .i64 sr) ∧ w'.cell? ⟨b, off + q * 4 + 1, none⟩ = some (.int .i64 ds)) (by kernel_rfl) ⟨k1, e0, d0, d1⟩ (fun hH => ?_)
        refine tkH 0 (v := ?_) rfl (fun _ _ _ h => h) (Or.inl ⟨by rfl, ?_⟩) hH ?_
        rotate_left
        · intro w9 hSw
          try dsimp only at hSw
          obtain ⟨s0, s1, s2, s3⟩ := hSw
          go_simp
          try with_reducible rfl
        try simp only [Act.put, List.setIfInBounds_toArray, List.set_cons_zero, List.set_cons_succ]
        refine tkH 1 (v := ?_) rfl (fun _ _ _ h => h) (Or.inl ⟨by rfl, ?_⟩) hH ?_
        rotate_left
        · intro w9 hSw
          try dsimp only at hSw
          obtain ⟨s0, s1, s2, s3⟩ := hSw
          go_simp
          try with_reducible rfl
        try simp only [Act.put, List.setIfInBounds_toArray, List.set_cons_zero, List.set_cons_succ]
        refine tkH 2 (v := ?_) rfl (fun _ _ _ h => h) (Or.inl ⟨by rfl, ?_⟩) hH ?_
        rotate_left
        · intro w9 hSw
          try dsimp only at hSw
          obtain ⟨s0, s1, s2, s3⟩ := hSw
          go_simp
          try with_reducible rfl
        try simp only [Act.put, List.setIfInBounds_toArray, List.set_cons_zero, List.set_cons_succ]
        refine tkH 3 (v := ?_) rfl (fun _ _ _ h => h) (Or.inl ⟨by rfl, ?_⟩) hH ?_
        rotate_left
        · intro w9 hSw
          try dsimp only at hSw
          obtain ⟨s0, s1, s2, s3⟩ := hSw
          go_simp
          try with_reducible rfl
        try simp only [Act.put, List.setIfInBounds_toArray, List.set_cons_zero, List.set_cons_succ]
        refine tkH 4 (v := ?_) rfl (fun _ _ _ h => h) (Or.inl ⟨by rfl, ?_⟩) hH ?_
        rotate_left
        · intro w9 hSw
          try dsimp only at hSw
          obtain ⟨s0, s1, s2, s3⟩ := hSw
          go_simp
          try with_reducible rfl
        try simp only [Act.put, List.setIfInBounds_toArray, List.set_cons_zero, List.set_cons_succ]
        refine tkH 5 (v := ?_) rfl (fun _ _ _ h => h) (Or.inl ⟨by rfl, ?_⟩) hH ?_
        rotate_left
        · intro w9 hSw
          try dsimp only at hSw
          obtain ⟨s0, s1, s2, s3⟩ := hSw
          go_simp
          try with_reducible rfl
        try simp only [Act.put, List.setIfInBounds_toArray, List.set_cons_zero, List.set_cons_succ]
        refine tkH 6 (v := ?_) rfl (fun _ _ _ h => h) (Or.inl ⟨by rfl, ?_⟩) hH ?_
        rotate_left
        · intro w9 hSw
          try dsimp only at hSw
          obtain ⟨s0, s1, s2, s3⟩ := hSw
          go_simp
          try with_reducible rfl
        try simp only [Act.put, List.setIfInBounds_toArray, List.set_cons_zero, List.set_cons_succ]
        refine tkH 7 (v := ?_) rfl (fun _ _ _ h => h) (Or.inl ⟨by rfl, ?_⟩) hH ?_
        rotate_left
        · intro w9 hSw
          try dsimp only at hSw
          obtain ⟨s0, s1, s2, s3⟩ := hSw
          go_simp
          try with_reducible rfl
        try simp only [Act.put, List.setIfInBounds_toArray, List.set_cons_zero, List.set_cons_succ]
        refine tkH 8 (v := ?_) rfl (fun _ _ _ h => h) (Or.inl ⟨by rfl, ?_⟩) hH ?_
        rotate_left
        · intro w9 hSw
          try dsimp only at hSw
          obtain ⟨s0, s1, s2, s3⟩ := hSw
          go_simp
          try with_reducible rfl
        try simp only [Act.put, List.setIfInBounds_toArray, List.set_cons_zero, List.set_cons_succ]
        refine tkH 9 (v := ?_) rfl (fun _ _ _ h => h) (Or.inl ⟨by rfl, ?_⟩) hH ?_
        rotate_left
        · intro w9 hSw
          try dsimp only at hSw
          obtain ⟨s0, s1, s2, s3⟩ := hSw
          go_simp
          try with_reducible rfl
        try simp only [Act.put, List.setIfInBounds_toArray, List.set_cons_zero, List.set_cons_succ]
        refine tkH 10 (v := ?_) rfl (fun _ _ _ h => h) (Or.inl ⟨by rfl, ?_⟩) hH ?_
        rotate_left
        · intro w9 hSw
          try dsimp only at hSw
          obtain ⟨s0, s1, s2, s3⟩ := hSw
          go_simp
          try with_reducible rfl
        try simp only [Act.put, List.setIfInBounds_toArray, List.set_cons_zero, List.set_cons_succ]
        refine tkH 11 (v := ?_) rfl (fun _ _ _ h => h) (Or.inl ⟨by rfl, ?_⟩) hH ?_
        rotate_left
        · intro w9 hSw
          try dsimp only at hSw
          obtain ⟨s0, s1, s2, s3⟩ := hSw
          go_simp
          try with_reducible rfl
        try simp only [Act.put, List.setIfInBounds_toArray, List.set_cons_zero, List.set_cons_succ]
        refine tkH 12 (v := undef) rfl (fun _ _ _ h => h) (Or.inr ⟨by rfl, rfl⟩) hH ?_
        try simp only [Act.put, List.setIfInBounds_toArray, List.set_cons_zero, List.set_cons_succ]
        refine tkH 13 (v := undef) rfl (fun _ _ _ h => h) (Or.inr ⟨by rfl, rfl⟩) hH ?_
        try simp only [Act.put, List.setIfInBounds_toArray, List.set_cons_zero, List.set_cons_succ]
        refine tkH 14 (v := undef) rfl (fun _ _ _ h => h) (Or.inr ⟨by rfl, rfl⟩) hH ?_
        try simp only [Act.put, List.setIfInBounds_toArray, List.set_cons_zero, List.set_cons_succ]
        refine tkH 15 (v := undef) rfl (fun _ _ _ h => h) (Or.inr ⟨by rfl, rfl⟩) hH ?_
        try simp only [Act.put, List.setIfInBounds_toArray, List.set_cons_zero, List.set_cons_succ]
        refine tkH 16 (v := undef) rfl (fun _ _ _ h => h) (Or.inr ⟨by rfl, rfl⟩) hH ?_
        try simp only [Act.put, List.setIfInBounds_toArray, List.set_cons_zero, List.set_cons_succ]
        refine tkH 17 (v := undef) rfl (fun _ _ _ h => h) (Or.inr ⟨by rfl, rfl⟩) hH ?_
        try simp only [Act.put, List.setIfInBounds_toArray, List.set_cons_zero, List.set_cons_succ]
        refine tkH 18 (v := undef) rfl (fun _ _ _ h => h) (Or.inr ⟨by rfl, rfl⟩) hH ?_
        try simp only [Act.put, List.setIfInBounds_toArray, List.set_cons_zero, List.set_cons_succ]
        refine tkH 19 (v := undef) rfl (fun _ _ _ h => h) (Or.inr ⟨by rfl, rfl⟩) hH ?_
        try simp only [Act.put, List.setIfInBounds_toArray, List.set_cons_zero, List.set_cons_succ]
        refine tkH 20 (v := undef) rfl (fun _ _ _ h => h) (Or.inr ⟨by rfl, rfl⟩) hH ?_
        try simp only [Act.put, List.setIfInBounds_toArray, List.set_cons_zero, List.set_cons_succ]
        refine tkH 21 (v := undef) rfl (fun _ _ _ h => h) (Or.inr ⟨by rfl, rfl⟩) hH ?_
        try simp only [Act.put, List.setIfInBounds_toArray, List.set_cons_zero, List.set_cons_succ]
        refine tkH 22 (v := undef) rfl (fun _ _ _ h => h) (Or.inr ⟨by rfl, rfl⟩) hH ?_
        try simp only [Act.put, List.setIfInBounds_toArray, List.set_cons_zero, List.set_cons_succ]
        refine tkH 23 (v := ?_) rfl (fun _ _ _ h => h) (Or.inl ⟨by rfl, ?_⟩) hH ?_
        rotate_left
        · intro w9 hSw
          try dsimp only at hSw
          obtain ⟨s0, s1, s2, s3⟩ := hSw
          go_simp
          try with_reducible rfl
        try simp only [Act.put, List.setIfInBounds_toArray, List.set_cons_zero, List.set_cons_succ]
        refine wpAnyH_done (by kernel_rfl) ?_ _
        go_wp2
        go_ret
        exact ⟨ret_bool hF.out.symm, hW.trans (hBt.mono hW.size)⟩
      · have q1 : (sr == ev) = false := by simpa using hs
        by_cases ht : ds = ev
        · have q2 : (ds == ev) = true := by simp [ht]
          have hF : Hid (visB gp p ev = true) := visB_at hlt (.inr (hps.out.2.trans ht))
          clear hs ht
          go_wp2_with fail
          refine wp_region_held_drew (S := fun w' => w'.cell? ⟨w.heap.size, 1, none⟩ = some (.slice (some ⟨b, off, none⟩) gp.length c) ∧ w'.cell? ⟨b2, off2 + k, none⟩ = some (.int .i64 (q : Nat)) ∧ w'.cell? ⟨b, off + q * 4, none⟩ = some (.int .i64 sr) ∧ w'.cell? ⟨b, off + q * 4 + 1, none⟩ = some (.int .i64 ds)) (by kernel_rfl) ⟨k1, e0, d0, d1⟩ (fun hH => ?_)
          refine tkH 0 (v := ?_) rfl (fun _ _ _ h => h) (Or.inl ⟨by rfl, ?_⟩) hH ?_
          rotate_left
          · intro w9 hSw
            try dsimp only at hSw
            obtain ⟨s0, s1, s2, s3⟩ := hSw
            go_simp
            try with_reducible rfl
          try simp only [Act.put, List.setIfInBounds_toArray, List.set_cons_zero, List.set_cons_succ]
          refine tkH 1 (v := ?_) rfl (fun _ _ _ h => h) (Or.inl ⟨by rfl, ?_⟩) hH ?_
          rotate_left
          · intro w9 hSw
            try dsimp only at hSw
            obtain ⟨s0, s1, s2, s3⟩ := hSw
            go_simp
            try with_reducible rfl
          try simp only [Act.put, List.setIfInBounds_toArray, List.set_cons_zero, List.set_cons_succ]
          refine tkH 2 (v := ?_) rfl (fun _ _ _ h => h) (Or.inl ⟨by rfl, ?_⟩) hH ?_
          rotate_left
          · intro w9 hSw
            try dsimp only at hSw
            obtain ⟨s0, s1, s2, s3⟩ := hSw
            go_simp
            try with_reducible rfl
          try simp only [Act.put, List.setIfInBounds_toArray, List.set_cons_zero, List.set_cons_succ]
          refine tkH 3 (v := ?_) rfl (fun _ _ _ h => h) (Or.inl ⟨by rfl, ?_⟩) hH ?_
          rotate_left
          · intro w9 hSw
            try dsimp only at hSw
            obtain ⟨s0, s1, s2, s3⟩ := hSw
            go_simp
            try with_reducible rfl
          try simp only [Act.put, List.setIfInBounds_toArray, List.set_cons_zero, List.set_cons_succ]
          refine tkH 4 (v := ?_) rfl (fun _ _ _ h => h) (Or.inl ⟨by rfl, ?_⟩) hH ?_
          rotate_left
          · intro w9 hSw
            try dsimp only at hSw
            obtain ⟨s0, s1, s2, s3⟩ := hSw
            go_simp
            try with_reducible rfl
          try simp only [Act.put, List.setIfInBounds_toArray, List.set_cons_zero, List.set_cons_succ]
          refine tkH 5 (v := ?_) rfl (fun _ _ _ h => h) (Or.inl ⟨by rfl, ?_⟩) hH ?_
          rotate_left
          · intro w9 hSw
            try dsimp only at hSw
            obtain ⟨s0, s1, s2, s3⟩ := hSw
            go_simp
            try with_reducible rfl
          try simp only [Act.put, List.setIfInBounds_toArray, List.set_cons_zero, List.set_cons_succ]
          refine tkH 6 (v := ?_) rfl (fun _ _ _ h => h) (Or.inl ⟨by rfl, ?_⟩) hH ?_
          rotate_left
          · intro w9 hSw
            try dsimp only at hSw
            obtain ⟨s0, s1, s2, s3⟩ := hSw
            go_simp
            try with_reducible rfl
          try simp only [Act.put, List.setIfInBounds_toArray, List.set_cons_zero, List.set_cons_succ]
          refine tkH 7 (v := ?_) rfl (fun _ _ _ h => h) (Or.inl ⟨by rfl, ?_⟩) hH ?_
          rotate_left
          · intro w9 hSw
            try dsimp only at hSw
            obtain ⟨s0, s1, s2, s3⟩ := hSw
            go_simp
            try with_reducible rfl
          try simp only [Act.put, List.setIfInBounds_toArray, List.set_cons_zero, List.set_cons_succ]
          refine tkH 8 (v := ?_) rfl (fun _ _ _ h => h) (Or.inl ⟨by rfl, ?_⟩) hH ?_
          rotate_left
          · intro w9 hSw
            try dsimp only at hSw
            obtain ⟨s0, s1, s2, s3⟩ := hSw
            go_simp
            try with_reducible rfl
          try simp only [Act.put, List.setIfInBounds_toArray, List.set_cons_zero, List.set_cons_succ]
          refine tkH 9 (v := ?_) rfl (fun _ _ _ h => h) (Or.inl ⟨by rfl, ?_⟩) hH ?_
          rotate_left
          · intro w9 hSw
            try dsimp only at hSw
            obtain ⟨s0, s1, s2, s3⟩ := hSw
            go_simp
            try with_reducible rfl
          try simp only [Act.put, List.setIfInBounds_toArray, List.set_cons_zero, List.set_cons_succ]
          refine tkH 10 (v := ?_) rfl (fun _ _ _ h => h) (Or.inl ⟨by rfl, ?_⟩) hH ?_
          rotate_left
          · intro w9 hSw
            try dsimp only at hSw
            obtain ⟨s0, s1, s2, s3⟩ := hSw
            go_simp
            try with_reducible rfl
          try simp only [Act.put, List.setIfInBounds_toArray, List.set_cons_zero, List.set_cons_succ]
          refine tkH 11 (v := ?_) rfl (fun _ _ _ h => h) (Or.inl ⟨by rfl, ?_⟩) hH ?_
          rotate_left
          · intro w9 hSw
            try dsimp only at hSw
            obtain ⟨s0, s1, s2, s3⟩ := hSw
            go_simp
            try with_reducible rfl
          try simp only [Act.put, List.setIfInBounds_toArray, List.set_cons_zero, List.set_cons_succ]
          refine tkH 12 (v := ?_) rfl (fun _ _ _ h => h) (Or.inl ⟨by rfl, ?_⟩) hH ?_
          rotate_left
          · intro w9 hSw
            try dsimp only at hSw
            obtain ⟨s0, s1, s2, s3⟩ := hSw
            go_simp
            try with_reducible rfl
          try simp only [Act.put, List.setIfInBounds_toArray, List.set_cons_zero, List.set_cons_succ]
          refine tkH 13 (v := ?_) rfl (fun _ _ _ h => h) (Or.inl ⟨by rfl, ?_⟩) hH ?_
          rotate_left
          · intro w9 hSw
            try dsimp only at hSw
            obtain ⟨s0, s1, s2, s3⟩ := hSw
            go_simp
            try with_reducible rfl
          try simp only [Act.put, List.setIfInBounds_toArray, List.set_cons_zero, List.set_cons_succ]
          refine tkH 14 (v := ?_) rfl (fun _ _ _ h => h) (Or.inl ⟨by rfl, ?_⟩) hH ?_
          rotate_left
          · intro w9 hSw
            try dsimp only at hSw
            obtain ⟨s0, s1, s2, s3⟩ := hSw
            go_simp
            try with_reducible rfl
          try simp only [Act.put, List.setIfInBounds_toArray, List.set_cons_zero, List.set_cons_succ]
          refine tkH 15 (v := ?_) rfl (fun _ _ _ h => h) (Or.inl ⟨by rfl, ?_⟩) hH ?_
          rotate_left
          · intro w9 hSw
            try dsimp only at hSw
            obtain ⟨s0, s1, s2, s3⟩ := hSw
            go_simp
            try with_reducible rfl
          try simp only [Act.put, List.setIfInBounds_toArray, List.set_cons_zero, List.set_cons_succ]
          refine tkH 16 (v := ?_) rfl (fun _ _ _ h => h) (Or.inl ⟨by rfl, ?_⟩) hH ?_
          rotate_left
          · intro w9 hSw
            try dsimp only at hSw
            obtain ⟨s0, s1, s2, s3⟩ := hSw
            go_simp
            try with_reducible rfl
          try simp only [Act.put, List.setIfInBounds_toArray, List.set_cons_zero, List.set_cons_succ]
          refine tkH 17 (v := ?_) rfl (fun _ _ _ h => h) (Or.inl ⟨by rfl, ?_⟩) hH ?_
          rotate_left
          · intro w9 hSw
            try dsimp only at hSw
            obtain ⟨s0, s1, s2, s3⟩ := hSw
            go_simp
            try with_reducible rfl
          try simp only [Act.put, List.setIfInBounds_toArray, List.set_cons_zero, List.set_cons_succ]
          refine tkH 18 (v := ?_) rfl (fun _ _ _ h => h) (Or.inl ⟨by rfl, ?_⟩) hH ?_
          rotate_left
          · intro w9 hSw
            try dsimp only at hSw
            obtain ⟨s0, s1, s2, s3⟩ := hSw
            go_simp
            try with_reducible rfl
          try simp only [Act.put, List.setIfInBounds_toArray, List.set_cons_zero, List.set_cons_succ]
          refine tkH 19 (v := ?_) rfl (fun _ _ _ h => h) (Or.inl ⟨by rfl, ?_⟩) hH ?_
          rotate_left
          · intro w9 hSw
            try dsimp only at hSw
            obtain ⟨s0, s1, s2, s3⟩ := hSw
            go_simp
            try with_reducible rfl
          try simp only [Act.put, List.setIfInBounds_toArray, List.set_cons_zero, List.set_cons_succ]
          refine tkH 20 (v := ?_) rfl (fun _ _ _ h => h) (Or.inl ⟨by rfl, ?_⟩) hH ?_
          rotate_left
          · intro w9 hSw
            try dsimp only at hSw
            obtain ⟨s0, s1, s2, s3⟩ := hSw
            go_simp
            try with_reducible rfl
          try simp only [Act.put, List.setIfInBounds_toArray, List.set_cons_zero, List.set_cons_succ]
          refine tkH 21 (v := ?_) rfl (fun _ _ _ h => h) (Or.inl ⟨by rfl, ?_⟩) hH ?_
          rotate_left
          · intro w9 hSw
            try dsimp only at hSw
            obtain ⟨s0, s1, s2, s3⟩ := hSw
            go_simp
            try with_reducible rfl
          try simp only [Act.put, List.setIfInBounds_toArray, List.set_cons_zero, List.set_cons_succ]
          refine tkH 22 (v := ?_) rfl (fun _ _ _ h => h) (Or.inl ⟨by rfl, ?_⟩) hH ?_
          rotate_left
          · intro w9 hSw
            try dsimp only at hSw
            obtain ⟨s0, s1, s2, s3⟩ := hSw
            go_simp
            try with_reducible rfl
          try simp only [Act.put, List.setIfInBounds_toArray, List.set_cons_zero, List.set_cons_succ]
          refine tkH 23 (v := ?_) rfl (fun _ _ _ h => h) (Or.inl ⟨by rfl, ?_⟩) hH ?_
          rotate_left
          · intro w9 hSw
            try dsimp only at hSw
            obtain ⟨s0, s1, s2, s3⟩ := hSw
            go_simp
            try with_reducible rfl
          try simp only [Act.put, List.setIfInBounds_toArray, List.set_cons_zero, List.set_cons_succ]
          refine wpAnyH_done (by kernel_rfl) ?_ _
          go_wp2
          go_ret
          exact ⟨ret_bool hF.out.symm, hW.trans (hBt.mono hW.size)⟩
        · have q2 : (ds == ev) = false := by simpa using ht
          have hN' : Hid (∀ j (hj : j < p.length), j < k + 1 → (pl gp p[j]).src ≠ ev ∧ (pl gp p[j]).dst ≠ ev) := fun j hj hj2 => by
            by_cases e : j = k
            · subst e
              rw [hps.out.1, hps.out.2]
              exact ⟨hs, ht⟩
            · exact hN.out j hj (by omega)
          clear hs ht hN
          go_wp2_with fail
          refine wp_region_held_drew (S := fun w' => w'.cell? ⟨w.heap.size, 1, none⟩ = some (.slice (some ⟨b, off, none⟩) gp.length c) ∧ w'.cell? ⟨b2, off2 + k, none⟩ = some (.int .i64 (q : Nat)) ∧ w'.cell? ⟨b, off + q * 4, none⟩ = some (.int .i64 sr) ∧ w'.cell? ⟨b, off + q * 4 + 1, none⟩ = some (.int .i64 ds)) (by kernel_rfl) ⟨k1, e0, d0, d1⟩ (fun hH => ?_)
          refine tkH 0 (v := ?_) rfl (fun _ _ _ h => h) (Or.inl ⟨by rfl, ?_⟩) hH ?_
          rotate_left
          · intro w9 hSw
            try dsimp only at hSw
            obtain ⟨s0, s1, s2, s3⟩ := hSw
            go_simp
            try with_reducible rfl
          try simp only [Act.put, List.setIfInBounds_toArray, List.set_cons_zero, List.set_cons_succ]
          refine tkH 1 (v := ?_) rfl (fun _ _ _ h => h) (Or.inl ⟨by rfl, ?_⟩) hH ?_
          rotate_left
          · intro w9 hSw
            try dsimp only at hSw
            obtain ⟨s0, s1, s2, s3⟩ := hSw
            go_simp
            try with_reducible rfl
          try simp only [Act.put, List.setIfInBounds_toArray, List.set_cons_zero, List.set_cons_succ]
          refine tkH 2 (v := ?_) rfl (fun _ _ _ h => h) (Or.inl ⟨by rfl, ?_⟩) hH ?_
          rotate_left
          · intro w9 hSw
            try dsimp only at hSw
            obtain ⟨s0, s1, s2, s3⟩ := hSw
            go_simp
            try with_reducible rfl
          try simp only [Act.put, List.setIfInBounds_toArray, List.set_cons_zero, List.set_cons_succ]
          refine tkH 3 (v := ?_) rfl (fun _ _ _ h => h) (Or.inl ⟨by rfl, ?_⟩) hH ?_
          rotate_left
          · intro w9 hSw
            try dsimp only at hSw
            obtain ⟨s0, s1, s2, s3⟩ := hSw
            go_simp
            try with_reducible rfl
          try simp only [Act.put, List.setIfInBounds_toArray, List.set_cons_zero, List.set_cons_succ]
          refine tkH 4 (v := ?_) rfl (fun _ _ _ h => h) (Or.inl ⟨by rfl, ?_⟩) hH ?_
          rotate_left
          · intro w9 hSw
            try dsimp only at hSw
            obtain ⟨s0, s1, s2, s3⟩ := hSw
            go_simp
            try with_reducible rfl
          try simp only [Act.put, List.setIfInBounds_toArray, List.set_cons_zero, List.set_cons_succ]
          refine tkH 5 (v := ?_) rfl (fun _ _ _ h => h) (Or.inl ⟨by rfl, ?_⟩) hH ?_
          rotate_left
          · intro w9 hSw
            try dsimp only at hSw
            obtain ⟨s0, s1, s2, s3⟩ := hSw
            go_simp
            try with_reducible rfl
          try simp only [Act.put, List.setIfInBounds_toArray, List.set_cons_zero, List.set_cons_succ]
          refine tkH 6 (v := ?_) rfl (fun _ _ _ h => h) (Or.inl ⟨by rfl, ?_⟩) hH ?_
          rotate_left
          · intro w9 hSw
            try dsimp only at hSw
            obtain ⟨s0, s1, s2, s3⟩ := hSw
            go_simp
            try with_reducible rfl
          try simp only [Act.put, List.setIfInBounds_toArray, List.set_cons_zero, List.set_cons_succ]
          refine tkH 7 (v := ?_) rfl (fun _ _ _ h => h) (Or.inl ⟨by rfl, ?_⟩) hH ?_
          rotate_left
          · intro w9 hSw
            try dsimp only at hSw
            obtain ⟨s0, s1, s2, s3⟩ := hSw
            go_simp
            try with_reducible rfl
          try simp only [Act.put, List.setIfInBounds_toArray, List.set_cons_zero, List.set_cons_succ]
          refine tkH 8 (v := ?_) rfl (fun _ _ _ h => h) (Or.inl ⟨by rfl, ?_⟩) hH ?_
          rotate_left
          · intro w9 hSw
            try dsimp only at hSw
            obtain ⟨s0, s1, s2, s3⟩ := hSw
            go_simp
            try with_reducible rfl
          try simp only [Act.put, List.setIfInBounds_toArray, List.set_cons_zero, List.set_cons_succ]
          refine tkH 9 (v := ?_) rfl (fun _ _ _ h => h) (Or.inl ⟨by rfl, ?_⟩) hH ?_
          rotate_left
          · intro w9 hSw
            try dsimp only at hSw
            obtain ⟨s0, s1, s2, s3⟩ := hSw
            go_simp
            try with_reducible rfl
          try simp only [Act.put, List.setIfInBounds_toArray, List.set_cons_zero, List.set_cons_succ]
          refine tkH 10 (v := ?_) rfl (fun _ _ _ h => h) (Or.inl ⟨by rfl, ?_⟩) hH ?_
          rotate_left
          · intro w9 hSw
            try dsimp only at hSw
            obtain ⟨s0, s1, s2, s3⟩ := hSw
            go_simp
            try with_reducible rfl
          try simp only [Act.put, List.setIfInBounds_toArray, List.set_cons_zero, List.set_cons_succ]
          refine tkH 11 (v := ?_) rfl (fun _ _ _ h => h) (Or.inl ⟨by rfl, ?_⟩) hH ?_
          rotate_left
          · intro w9 hSw
            try dsimp only at hSw
            obtain ⟨s0, s1, s2, s3⟩ := hSw
            go_simp
            try with_reducible rfl
          try simp only [Act.put, List.setIfInBounds_toArray, List.set_cons_zero, List.set_cons_succ]
          refine tkH 12 (v := ?_) rfl (fun _ _ _ h => h) (Or.inl ⟨by rfl, ?_⟩) hH ?_
          rotate_left
          · intro w9 hSw
            try dsimp only at hSw
            obtain ⟨s0, s1, s2, s3⟩ := hSw
            go_simp
            try with_reducible rfl
          try simp only [Act.put, List.setIfInBounds_toArray, List.set_cons_zero, List.set_cons_succ]
          refine tkH 13 (v := ?_) rfl (fun _ _ _ h => h) (Or.inl ⟨by rfl, ?_⟩) hH ?_
          rotate_left
          · intro w9 hSw
            try dsimp only at hSw
            obtain ⟨s0, s1, s2, s3⟩ := hSw
            go_simp
            try with_reducible rfl
          try simp only [Act.put, List.setIfInBounds_toArray, List.set_cons_zero, List.set_cons_succ]
          refine tkH 14 (v := ?_) rfl (fun _ _ _ h => h) (Or.inl ⟨by rfl, ?_⟩) hH ?_
          rotate_left
          · intro w9 hSw
            try dsimp only at hSw
            obtain ⟨s0, s1, s2, s3⟩ := hSw
            go_simp
            try with_reducible rfl
          try simp only [Act.put, List.setIfInBounds_toArray, List.set_cons_zero, List.set_cons_succ]
          refine tkH 15 (v := ?_) rfl (fun _ _ _ h => h) (Or.inl ⟨by rfl, ?_⟩) hH ?_
          rotate_left
          · intro w9 hSw
            try dsimp only at hSw
            obtain ⟨s0, s1, s2, s3⟩ := hSw
            go_simp
            try with_reducible rfl
          try simp only [Act.put, List.setIfInBounds_toArray, List.set_cons_zero, List.set_cons_succ]
          refine tkH 16 (v := ?_) rfl (fun _ _ _ h => h) (Or.inl ⟨by rfl, ?_⟩) hH ?_
          rotate_left
          · intro w9 hSw
            try dsimp only at hSw
            obtain ⟨s0, s1, s2, s3⟩ := hSw
            go_simp
            try with_reducible rfl
          try simp only [Act.put, List.setIfInBounds_toArray, List.set_cons_zero, List.set_cons_succ]
          refine tkH 17 (v := ?_) rfl (fun _ _ _ h => h) (Or.inl ⟨by rfl, ?_⟩) hH ?_
          rotate_left
          · intro w9 hSw
            try dsimp only at hSw
            obtain ⟨s0, s1, s2, s3⟩ := hSw
            go_simp
            try with_reducible rfl
          try simp only [Act.put, List.setIfInBounds_toArray, List.set_cons_zero, List.set_cons_succ]
          refine tkH 18 (v := ?_) rfl (fun _ _ _ h => h) (Or.inl ⟨by rfl, ?_⟩) hH ?_
          rotate_left
          · intro w9 hSw
            try dsimp only at hSw
            obtain ⟨s0, s1, s2, s3⟩ := hSw
            go_simp
            try with_reducible rfl
          try simp only [Act.put, List.setIfInBounds_toArray, List.set_cons_zero, List.set_cons_succ]
          refine tkH 19 (v := ?_) rfl (fun _ _ _ h => h) (Or.inl ⟨by rfl, ?_⟩) hH ?_
          rotate_left
          · intro w9 hSw
            try dsimp only at hSw
            obtain ⟨s0, s1, s2, s3⟩ := hSw
            go_simp
            try with_reducible rfl
          try simp only [Act.put, List.setIfInBounds_toArray, List.set_cons_zero, List.set_cons_succ]
          refine tkH 20 (v := ?_) rfl (fun _ _ _ h => h) (Or.inl ⟨by rfl, ?_⟩) hH ?_
          rotate_left
          · intro w9 hSw
            try dsimp only at hSw
            obtain ⟨s0, s1, s2, s3⟩ := hSw
            go_simp
            try with_reducible rfl
          try simp only [Act.put, List.setIfInBounds_toArray, List.set_cons_zero, List.set_cons_succ]
          refine tkH 21 (v := ?_) rfl (fun _ _ _ h => h) (Or.inl ⟨by rfl, ?_⟩) hH ?_
          rotate_left
          · intro w9 hSw
            try dsimp only at hSw
            obtain ⟨s0, s1, s2, s3⟩ := hSw
            go_simp
            try with_reducible rfl
          try simp only [Act.put, List.setIfInBounds_toArray, List.set_cons_zero, List.set_cons_succ]
          refine tkH 22 (v := ?_) rfl (fun _ _ _ h => h) (Or.inl ⟨by rfl, ?_⟩) hH ?_
          rotate_left
          · intro w9 hSw
            try dsimp only at hSw
            obtain ⟨s0, s1, s2, s3⟩ := hSw
            go_simp
            try with_reducible rfl
          try simp only [Act.put, List.setIfInBounds_toArray, List.set_cons_zero, List.set_cons_succ]
          refine tkH 23 (v := ?_) rfl (fun _ _ _ h => h) (Or.inl ⟨by rfl, ?_⟩) hH ?_
          rotate_left
          · intro w9 hSw
            try dsimp only at hSw
            obtain ⟨s0, s1, s2, s3⟩ := hSw
            go_simp
            try with_reducible rfl
          try simp only [Act.put, List.setIfInBounds_toArray, List.set_cons_zero, List.set_cons_succ]
          refine wpAnyH_done (by kernel_rfl) ?_ _
          go_wp2
          go_roundw
          case rel => exact ⟨k + 1, hlt, by go_num, hN', hBt⟩
          case measure => simp [intOf]; omega
    · obtain rfl : k = p.length := by omega
      have hF : Hid (visB gp p ev = false) := visB_take fun j hj => hN.out j hj hj
      go_wp2
      go_ret
      exact ⟨ret_bool hF.out.symm, hW.trans (hB.mono hW.size)⟩
set_option maxHeartbeats 16000000 in
set_option maxRecDepth 100000 in
theorem spec_l15Grow (v : Value) (n : Nat) (gp : List Place) (a bb ov : Int) (hok : Hid (okGraph n gp = true)) (ha : -1000000 ≤ a ∧ a ≤ 1000000) (hb : 1 ≤ bb ∧ bb ≤ 1000000) : ∀ (f : Nat) (path : List Nat) (pv : Value) (w : World), n ≤ path.length + f → Lst Place.cells 4 w w.heap.size v gp → Lst intCell 1 w w.heap.size pv (ints path) → PathC gp path →
    Calls Try.prog 166 #[.agg #[.int .i64 n, v], pv, .agg #[.int .i64 a, .int .i64 bb], .int .i64 ov] w fun r w' => ∃ v' out, r = .returned v' ∧ Lst intCell 1 w' w'.heap.size v' (ints out) ∧ Hid (FoundC gp a bb ov path out) ∧ Below w.heap.size w w' := by
  intro f
  induction f using Nat.strongRecOn with
  | ind f ih =>
  intro path pv w hf h0 h1 hP
  obtain ⟨A, c, rfl⟩ := h0.shape
  have hih := Lib.hid ih
  clear ih
  obtain ⟨C, d, rfl⟩ := h1.shape
  rw [ints_len] at h1 ⊢
  have hgl := okGraph_len hok.out
  obtain ⟨hn1, hn2⟩ := okGraph_ev hok.out
  have hpos := List.length_pos_iff.2 hP.ne
  have hplen := hP.len hok.out
  have hPH := Lib.hid hP
  have hall : Hid (∀ x ∈ path, x < gp.length) := hP.lt
  have hpb : path.length ≤ 1048576 := by omega
  obtain ⟨P, hPd⟩ : ∃ P : Nat, path.length - 1 = P := ⟨_, rfl⟩
  have hPl : P < path.length := by omega
  have hq0 := hall.out _ (List.getElem_mem hpos)
  have hqP := hall.out _ (List.getElem_mem hPl)
  have hhd : path.headD 0 = path[0] := head_getC hP.ne
  have htl : path.getLastD 0 = path[P] := by rw [last_getC hP.ne]; simp only [hPd]
  obtain ⟨q0, hq0d⟩ : ∃ q0, path[0] = q0 := ⟨_, rfl⟩
  obtain ⟨qP, hqPd⟩ : ∃ qP, path[P] = qP := ⟨_, rfl⟩
  rw [hq0d] at hq0 hhd
  rw [hqPd] at hqP htl
  go_enter Try.func166, Try.ntmps166
  go_wp2
  have hW : Below w.heap.size w ((w.alloc (.cells #[.int .i64 (n : Int), .slice A gp.length c] 32)).alloc (.cells #[.int .i64 a, .int .i64 bb] 34)) := (((Below.refl _ _).alloc (Nat.le_refl _) _).alloc (by first | (simp; done) | (simp; omega)) _); have hb0 : Blk ((w.alloc (.cells #[.int .i64 (n : Int), .slice A gp.length c] 32)).alloc (.cells #[.int .i64 a, .int .i64 bb] 34)) (w.heap.size) 32 #[.int .i64 (n : Int), .slice A gp.length c] := ((Blk.newAt w _ (by first | rfl | (simp; done) | (simp; omega))).alloc _); have hb1 : Blk ((w.alloc (.cells #[.int .i64 (n : Int), .slice A gp.length c] 32)).alloc (.cells #[.int .i64 a, .int .i64 bb] 34)) (w.heap.size + 1) 34 #[.int .i64 a, .int .i64 bb] := (Blk.newAt (w.alloc (.cells #[.int .i64 (n : Int), .slice A gp.length c] 32)) _ (by first | rfl | (simp; done) | (simp; omega))); replace h0 := h0.now hW; replace h1 := h1.now hW; have hsW : w.heap.size + 2 = ((w.alloc (.cells #[.int .i64 (n : Int), .slice A gp.length c] 32)).alloc (.cells #[.int .i64 a, .int .i64 bb] 34)).heap.size := (by first | rfl | (simp; done) | (simp; omega)); generalize ((w.alloc (.cells #[.int .i64 (n : Int), .slice A gp.length c] 32)).alloc (.cells #[.int .i64 a, .int .i64 bb] 34)) = W at *; replace hsW := Lib.hid hsW
  obtain ⟨b1, o1, hC1, _, e0⟩ := ints_at h1 0 (by rw [ints_len]; exact hpos)
  obtain ⟨_, _, hC2, _, e1⟩ := ints_at h1 P (by rw [ints_len]; exact hPl)
  cases hC1
  cases hC2
  rw [ints_get _ _ _ hpos, hq0d] at e0
  rw [ints_get _ _ _ hPl, hqPd] at e1
  obtain ⟨b, off, hA1, _, d0, _, _, _⟩ := places_at h0 q0 hq0
  cases hA1
  obtain ⟨_, _, hA1, _, _, d1, _, _⟩ := places_at h0 qP hqP
  cases hA1
  obtain ⟨fi, hfi⟩ : ∃ fi, gp[q0].src = fi := ⟨_, rfl⟩
  obtain ⟨la, hla⟩ : ∃ la, gp[qP].dst = la := ⟨_, rfl⟩
  rw [hfi] at d0
  rw [hla] at d1
  have hfst : Hid ((pl gp (path.headD 0)).src = fi) := by show _ = _; rw [hhd, pl_at hq0]; exact hfi
  have hlst : Hid ((pl gp (path.getLastD 0)).dst = la) := by show _ = _; rw [htl, pl_at hqP]; exact hla
  clear hfi hla hhd htl hq0d hqPd hP
  have p1 : (0 : Int) ≤ (P : Int) := by omega
  have p2 : (P : Int) < (path.length : Int) := by omega
  have p3 : (0 : Int) < (path.length : Int) := by omega
  have p4 : (0 : Int) ≤ (q0 : Int) := by omega
  have p6 : (q0 : Int) < (gp.length : Int) := by omega
  have p7 : (0 : Int) ≤ (qP : Int) := by omega
  have p8 : (qP : Int) < (gp.length : Int) := by omega
  have p5 : IntKind.i64.wrap ((path.length : Int) - 1) = (P : Int) := (IntWalk.i64_in _ (by omega)).trans (by omega)
  obtain ⟨k0, k1⟩ := hb0.c2
  have hBd : Below W.heap.size W W.drew := Below.drew (Below.refl _ W)
  replace k1 := cell_keep k1 hBd
  replace e0 := cell_keep e0 hBd
  replace e1 := cell_keep e1 hBd
  replace d0 := cell_keep d0 hBd
  replace d1 := cell_keep d1 hBd
  clear k0
  go_wp2_with fail
  refine wp_region_held_drew (S := fun w' => w'.cell? ⟨w.heap.size, 1, none⟩ = some (.slice (some ⟨b, off, none⟩) gp.length c) ∧ w'.cell? ⟨b1, o1, none⟩ = some (.int .i64 (q0 : Nat)) ∧ w'.cell? ⟨b1, o1 + P, none⟩ = some (.int .i64 (qP : Nat)) ∧ w'.cell? ⟨b, off + q0 * 4, none⟩ = some (.int .i64 fi) ∧ w'.cell? ⟨b, off + qP * 4 + 1, none⟩ = some (.int .i64 la)) (by kernel_rfl) ⟨k1, e0, e1, d0, d1⟩ (fun hH => ?_)
  refine tkH 0 (v := ?_) rfl (fun _ _ _ h => h) (Or.inl ⟨by rfl, ?_⟩) hH ?_
  rotate_left
  · intro w9 hSw
    try dsimp only at hSw
    obtain ⟨s0, s1, s2, s3, s4⟩ := hSw
    go_simp
    try with_reducible rfl
  try simp only [Act.put, List.setIfInBounds_toArray, List.set_cons_zero, List.set_cons_succ]
  refine tkH 1 (v := ?_) rfl (fun _ _ _ h => h) (Or.inl ⟨by rfl, ?_⟩) hH ?_
  rotate_left
  · intro w9 hSw
    try dsimp only at hSw
    obtain ⟨s0, s1, s2, s3, s4⟩ := hSw
    go_simp
    try with_reducible rfl
  try simp only [Act.put, List.setIfInBounds_toArray, List.set_cons_zero, List.set_cons_succ]
  refine tkH 2 (v := ?_) rfl (fun _ _ _ h => h) (Or.inl ⟨by rfl, ?_⟩) hH ?_
  rotate_left
  · intro w9 hSw
    try dsimp only at hSw
    obtain ⟨s0, s1, s2, s3, s4⟩ := hSw
    go_simp
    try with_reducible rfl
  try simp only [Act.put, List.setIfInBounds_toArray, List.set_cons_zero, List.set_cons_succ]
  refine tkH 3 (v := ?_) rfl (fun _ _ _ h => h) (Or.inl ⟨by rfl, ?_⟩) hH ?_
  rotate_left
  · intro w9 hSw
    try dsimp only at hSw
    obtain ⟨s0, s1, s2, s3, s4⟩ := hSw
    go_simp
    try with_reducible rfl
  try simp only [Act.put, List.setIfInBounds_toArray, List.set_cons_zero, List.set_cons_succ]
  refine tkH 4 (v := ?_) rfl (fun _ _ _ h => h) (Or.inl ⟨by rfl, ?_⟩) hH ?_
  rotate_left
  · intro w9 hSw
    try dsimp only at hSw
    obtain ⟨s0, s1, s2, s3, s4⟩ := hSw
    go_simp
    try with_reducible rfl
  try simp only [Act.put, List.setIfInBounds_toArray, List.set_cons_zero, List.set_cons_succ]
  refine tkH 5 (v := ?_) rfl (fun _ _ _ h => h) (Or.inl ⟨by rfl, ?_⟩) hH ?_
  rotate_left
  · intro w9 hSw
    try dsimp only at hSw
    obtain ⟨s0, s1, s2, s3, s4⟩ := hSw
    go_simp
    try with_reducible rfl
  try simp only [Act.put, List.setIfInBounds_toArray, List.set_cons_zero, List.set_cons_succ]
  refine tkH 6 (v := ?_) rfl (fun _ _ _ h => h) (Or.inl ⟨by rfl, ?_⟩) hH ?_
  rotate_left
  · intro w9 hSw
    try dsimp only at hSw
    obtain ⟨s0, s1, s2, s3, s4⟩ := hSw
    go_simp
    try with_reducible rfl
  try simp only [Act.put, List.setIfInBounds_toArray, List.set_cons_zero, List.set_cons_succ]
  refine tkH 7 (v := ?_) rfl (fun _ _ _ h => h) (Or.inl ⟨by rfl, ?_⟩) hH ?_
  rotate_left
  · intro w9 hSw
    try dsimp only at hSw
    obtain ⟨s0, s1, s2, s3, s4⟩ := hSw
    go_simp
    try with_reducible rfl
  try simp only [Act.put, List.setIfInBounds_toArray, List.set_cons_zero, List.set_cons_succ]
  refine tkH 8 (v := ?_) rfl (fun _ _ _ h => h) (Or.inl ⟨by rfl, ?_⟩) hH ?_
  rotate_left
  · intro w9 hSw
    try dsimp only at hSw
    obtain ⟨s0, s1, s2, s3, s4⟩ := hSw
    go_simp
    try with_reducible rfl
  try simp only [Act.put, List.setIfInBounds_toArray, List.set_cons_zero, List.set_cons_succ]
  refine tkH 9 (v := ?_) rfl (fun _ _ _ h => h) (Or.inl ⟨by rfl, ?_⟩) hH ?_
  rotate_left
  · intro w9 hSw
    try dsimp only at hSw
    obtain ⟨s0, s1, s2, s3, s4⟩ := hSw
    go_simp
    try with_reducible rfl
  try simp only [Act.put, List.setIfInBounds_toArray, List.set_cons_zero, List.set_cons_succ]
  refine tkH 10 (v := ?_) rfl (fun _ _ _ h => h) (Or.inl ⟨by rfl, ?_⟩) hH ?_
  rotate_left
  · intro w9 hSw
    try dsimp only at hSw
    obtain ⟨s0, s1, s2, s3, s4⟩ := hSw
    go_simp
    try with_reducible rfl
  try simp only [Act.put, List.setIfInBounds_toArray, List.set_cons_zero, List.set_cons_succ]
  refine tkH 11 (v := ?_) rfl (fun _ _ _ h => h) (Or.inl ⟨by rfl, ?_⟩) hH ?_
  rotate_left
  · intro w9 hSw
    try dsimp only at hSw
    obtain ⟨s0, s1, s2, s3, s4⟩ := hSw
    go_simp
    try with_reducible rfl
  try simp only [Act.put, List.setIfInBounds_toArray, List.set_cons_zero, List.set_cons_succ]
  refine tkH 12 (v := ?_) rfl (fun _ _ _ h => h) (Or.inl ⟨by rfl, ?_⟩) hH ?_
  rotate_left
  · intro w9 hSw
    try dsimp only at hSw
    obtain ⟨s0, s1, s2, s3, s4⟩ := hSw
    go_simp
    try with_reducible rfl
  try simp only [Act.put, List.setIfInBounds_toArray, List.set_cons_zero, List.set_cons_succ]
  refine tkH 13 (v := ?_) rfl (fun _ _ _ h => h) (Or.inl ⟨by rfl, ?_⟩) hH ?_
  rotate_left
  · intro w9 hSw
    try dsimp only at hSw
    obtain ⟨s0, s1, s2, s3, s4⟩ := hSw
    go_simp
    try with_reducible rfl
  try simp only [Act.put, List.setIfInBounds_toArray, List.set_cons_zero, List.set_cons_succ]
  refine tkH 14 (v := ?_) rfl (fun _ _ _ h => h) (Or.inl ⟨by rfl, ?_⟩) hH ?_
  rotate_left
  · intro w9 hSw
    try dsimp only at hSw
    obtain ⟨s0, s1, s2, s3, s4⟩ := hSw
    go_simp
    try with_reducible rfl
  try simp only [Act.put, List.setIfInBounds_toArray, List.set_cons_zero, List.set_cons_succ]
  refine tkH 15 (v := ?_) rfl (fun _ _ _ h => h) (Or.inl ⟨by rfl, ?_⟩) hH ?_
  rotate_left
  · intro w9 hSw
    try dsimp only at hSw
    obtain ⟨s0, s1, s2, s3, s4⟩ := hSw
    go_simp
    try with_reducible rfl
  try simp only [Act.put, List.setIfInBounds_toArray, List.set_cons_zero, List.set_cons_succ]
  refine tkH 16 (v := ?_) rfl (fun _ _ _ h => h) (Or.inl ⟨by rfl, ?_⟩) hH ?_
  rotate_left
  · intro w9 hSw
    try dsimp only at hSw
    obtain ⟨s0, s1, s2, s3, s4⟩ := hSw
    go_simp
    try with_reducible rfl
  try simp only [Act.put, List.setIfInBounds_toArray, List.set_cons_zero, List.set_cons_succ]
  refine tkH 17 (v := ?_) rfl (fun _ _ _ h => h) (Or.inl ⟨by rfl, ?_⟩) hH ?_
  rotate_left
  · intro w9 hSw
    try dsimp only at hSw
    obtain ⟨s0, s1, s2, s3, s4⟩ := hSw
    go_simp
    try with_reducible rfl
  try simp only [Act.put, List.setIfInBounds_toArray, List.set_cons_zero, List.set_cons_succ]
  refine tkH 18 (v := ?_) rfl (fun _ _ _ h => h) (Or.inl ⟨by rfl, ?_⟩) hH ?_
  rotate_left
  · intro w9 hSw
    try dsimp only at hSw
    obtain ⟨s0, s1, s2, s3, s4⟩ := hSw
    go_simp
    try with_reducible rfl
  try simp only [Act.put, List.setIfInBounds_toArray, List.set_cons_zero, List.set_cons_succ]
  refine tkH 19 (v := ?_) rfl (fun _ _ _ h => h) (Or.inl ⟨by rfl, ?_⟩) hH ?_
  rotate_left
  · intro w9 hSw
    try dsimp only at hSw
    obtain ⟨s0, s1, s2, s3, s4⟩ := hSw
    go_simp
    try with_reducible rfl
  try simp only [Act.put, List.setIfInBounds_toArray, List.set_cons_zero, List.set_cons_succ]
  refine tkH 20 (v := ?_) rfl (fun _ _ _ h => h) (Or.inl ⟨by rfl, ?_⟩) hH ?_
  rotate_left
  · intro w9 hSw
    try dsimp only at hSw
    obtain ⟨s0, s1, s2, s3, s4⟩ := hSw
    go_simp
    try with_reducible rfl
  try simp only [Act.put, List.setIfInBounds_toArray, List.set_cons_zero, List.set_cons_succ]
  refine wpAnyH_done (by kernel_rfl) ?_ _
  clear k1 e0 e1 d0 d1 hH p1 p2 p3 p4 p5 p6 p7 p8
  replace h0 := h0.now hBd
  replace h1 := h1.now hBd
  replace hb0 := hb0.now hBd
  replace hb1 := hb1.now hBd
  replace hW := hW.trans (hBd.mono hW.size)
  clear hBd hsW
  generalize W.drew = W1 at *
  by_cases hcl : la = fi
  · have q1 : (la == fi) = true := by simp [hcl]
    have hclo : Hid ((pl gp (path.getLastD 0)).dst = (pl gp (path.headD 0)).src) := by rw [hfst.out, hlst.out]; exact hcl
    have hab : Hid (allB (ints path) 0 ((gp.length : Int) - 1) = true) := ints_all hall.out
    obtain ⟨⟨s1, s2⟩, s3, s4⟩ := sums_le hok.out hab.out (ints path).length (Nat.le_refl _)
    have hcw : Hid (cwL a bb gp (ints path) = bb * sumD gp (ints path) (ints path).length - a * sumK gp (ints path) (ints path).length) := rfl
    obtain ⟨D, hD⟩ : ∃ D, sumD gp (ints path) (ints path).length = D := ⟨_, rfl⟩
    obtain ⟨M, hM⟩ : ∃ M, sumK gp (ints path) (ints path).length = M := ⟨_, rfl⟩
    rw [hD] at s1 s2 hcw
    rw [hM] at s3 s4 hcw
    rw [ints_len] at s2 s4
    have hDH := Lib.hid hD
    have hMH := Lib.hid hM
    have hlH := Lib.hid (ints_len path)
    have m1 : 0 ≤ bb * D := Int.mul_nonneg (by omega) s1
    have m2 : bb * D ≤ 1000000 * 10000 := Int.mul_le_mul (by omega) (by omega) s1 (by omega)
    have m3 : -(1000000 * 50) ≤ a * M ∧ a * M ≤ 1000000 * 50 := by
      have h9 : (a * M).natAbs ≤ 1000000 * 50 := by
        rw [Int.natAbs_mul]
        exact Nat.mul_le_mul (by omega) (by omega)
      omega
    obtain ⟨X, hX⟩ : ∃ X, bb * D = X := ⟨_, rfl⟩
    obtain ⟨Y, hY⟩ : ∃ Y, a * M = Y := ⟨_, rfl⟩
    rw [hX] at m1 m2 hcw
    rw [hY] at m3 hcw
    have wX : IntKind.i64.wrap (bb * D) = X := by rw [hX]; exact IntWalk.i64_in _ (by omega)
    have wY : IntKind.i64.wrap (a * M) = Y := by rw [hY]; exact IntWalk.i64_in _ (by omega)
    have wXY : IntKind.i64.wrap (X - Y) = X - Y := IntWalk.i64_in _ (by omega)
    obtain ⟨k0, k1⟩ := hb0.c2
    clear hcl hD hM hX hY s1 s2 s3 s4 m1 m2 m3
    go_wp2_with fail
    refine (spec_l15Sums _ n gp _ (ints path) _ h0 (by simpa [hlH.out] using h1) hok hab (by rw [hlH.out]; exact hpb)).mono ?_
    rintro e w3 ⟨rfl, hB⟩
    rw [hDH.out, hMH.out]
    clear k0 k1
    replace hW := hW.trans (hB.mono hW.size); replace h1 := h1.now hB; replace hb1 := hb1.now hB
    clear hB
    obtain ⟨r0, r1⟩ := hb1.c2
    by_cases hov : ov < X - Y
    · have hF : Hid (FoundC gp a bb ov path path) := ⟨fun h => absurd h hPH.out.ne, fun _ => ⟨hPH.out.circ hclo.out, by rw [hcw.out]; exact hov⟩⟩
      go_wp2
      go_ret
      exact ⟨_, path, rfl, by simpa [hlH.out] using h1, hF.out, hW⟩
    · have hF : Hid (FoundC gp a bb ov path []) := ⟨fun _ => barren_closed hPH.out hclo.out (by rw [hcw.out]; omega), fun h => absurd rfl h⟩
      go_wp2
      go_ret
      exact ⟨_, [], rfl, Lst.nil, hF.out, hW⟩
  · have q1 : (la == fi) = false := by simpa using hcl
    have hopen : Hid ((pl gp (path.getLastD 0)).dst ≠ (pl gp (path.headD 0)).src) := by rw [hfst.out, hlst.out]; exact hcl
    clear hcl
    go_wp2
    go_loopw [13, 14, 15] (fun i _ _ wr => ∃ u : Nat, u ≤ gp.length ∧ i = .int .i64 u ∧ Hid (∀ x, x < u → (pl gp x).src = la → fi ≤ (pl gp x).dst → ((pl gp x).dst = fi ∨ ∀ y ∈ path, (pl gp y).src ≠ (pl gp x).dst ∧ (pl gp y).dst ≠ (pl gp x).dst) → BarrenC gp a bb ov (path ++ [x])) ∧ Below W1.heap.size W1 wr) (fun i _ _ _ => gp.length - (intOf i).toNat)
    case atStart => exact ⟨0, Nat.zero_le _, rfl, fun x hx => absurd hx (by omega), Below.refl _ _⟩
    case round =>
      obtain ⟨u, hu, rfl, hN, hB⟩ := hrel
      by_cases hlt : u < gp.length
      · obtain ⟨_, _, hA1, _, d0, d1, d2, d3⟩ := places_at (h0.now hB) u hlt
        cases hA1
        obtain ⟨k0, k1⟩ := (hb0.now hB).c2
        have l0 := (hb0.now hB).lt
        obtain ⟨ps, hps⟩ : ∃ ps, gp[u].src = ps := ⟨_, rfl⟩
        obtain ⟨pd, hpd⟩ : ∃ pd, gp[u].dst = pd := ⟨_, rfl⟩
        obtain ⟨dl, hdl⟩ : ∃ dl, gp[u].delay = dl := ⟨_, rfl⟩
        obtain ⟨tk, htk⟩ : ∃ tk, gp[u].tokens = tk := ⟨_, rfl⟩
        rw [hps] at d0
        rw [hpd] at d1
        rw [hdl] at d2
        rw [htk] at d3
        have hpsH : Hid ((pl gp u).src = ps ∧ (pl gp u).dst = pd) := by rw [pl_at hlt]; exact ⟨hps, hpd⟩
        clear hps hpd hdl htk
        have i1 : (0 : Int) ≤ (u : Int) := by omega
        have i2 : (u : Int) < (gp.length : Int) := by omega
        have hA2 : Below wr.heap.size wr (wr.alloc (.cells #[.int .i64 ps, .int .i64 pd, .int .i64 dl, .int .i64 tk] 101)) := (Below.refl _ _).alloc (Nat.le_refl _) _
        have hbp : Blk (wr.alloc (.cells #[.int .i64 ps, .int .i64 pd, .int .i64 dl, .int .i64 tk] 101)) wr.heap.size 101 #[.int .i64 ps, .int .i64 pd, .int .i64 dl, .int .i64 tk] := Blk.new _ _ _
        have hBV := hB.trans (hA2.mono hB.size)
        have g0 := h0.now hBV
        have g1 := h1.now hBV
        have hNg := Lib.hid (fun (hb : (pl gp u).src = la → fi ≤ (pl gp u).dst → ((pl gp u).dst = fi ∨ ∀ y ∈ path, (pl gp y).src ≠ (pl gp u).dst ∧ (pl gp y).dst ≠ (pl gp u).dst) → BarrenC gp a bb ov (path ++ [u])) => grow_next hN.out hb)
        clear hN hbp
        by_cases c1 : ps = la
        · have q1 : (ps != la) = false := by simp [c1]
          by_cases c2 : pd < fi
          · have hN' := Lib.hid (hNg.out (fun _ h _ => absurd h (by rw [hpsH.out.2]; omega)))
            clear c1 hNg
            go_wp2
            go_roundw
            case rel => exact ⟨u + 1, hlt, by go_num, hN'.out, hBV⟩
            case measure => simp [intOf]; omega
          · by_cases c3 : pd = fi
            · have q3 : (pd != fi) = false := by simp [c3]
              have hP2 := Lib.hid (hPH.out.snoc hopen.out hlt (by rw [hpsH.out.1, hlst.out]; exact c1) (by rw [hpsH.out.2, hfst.out]; omega) (.inl (by rw [hpsH.out.2, hfst.out]; exact c3)))
              have hNs := Lib.hid (fun hb => hNg.out (fun _ _ _ => hb))
              clear c1 c3 hNg
              go_wp2_with fail
              clear d0 d1 d2 d3 k0 k1 l0 hA2 hB g0 g1
              generalize wr.alloc (.cells #[.int .i64 ps, .int .i64 pd, .int .i64 dl, .int .i64 tk] 101) = Vq at *
              have hBd2 : Below Vq.heap.size Vq Vq.drew := Below.drew (Below.refl _ Vq)
              obtain ⟨x0, x1⟩ := (hb0.now hBV).c2
              obtain ⟨x2, x3⟩ := (hb1.now hBV).c2
              replace x0 := cell_keep x0 hBd2
              replace x1 := cell_keep x1 hBd2
              replace x2 := cell_keep x2 hBd2
              replace x3 := cell_keep x3 hBd2
              have g0 := (h0.now hBV).now hBd2
              have g1 := (h1.now hBV).now hBd2
              have hlen2 : (ints path).length ≤ 1048576 := by rw [ints_len]; omega
              have hLn : Hid ((ints path).length = path.length) := ints_len path
              have hlen : (ints path).length + [(u : Int)].length ≤ 1099511627776 := by rw [ints_len]; simp; omega
              have hLL : Hid ((ints path ++ [(u : Int)]).length = path.length + 1) := by show _ = _; rw [List.length_append, ints_len]; rfl
              have hfp : 0 < f := by have h9 := hP2.out.len hok.out; simp at h9; omega
              refine wp_region_held_drew (S := fun w' => w'.cell? ⟨w.heap.size, 0, none⟩ = some (.int .i64 (n : Nat)) ∧ w'.cell? ⟨w.heap.size, 1, none⟩ = some (.slice (some ⟨b, off, none⟩) gp.length c) ∧ w'.cell? ⟨w.heap.size + 1, 0, none⟩ = some (.int .i64 a) ∧ w'.cell? ⟨w.heap.size + 1, 1, none⟩ = some (.int .i64 bb)) (by kernel_rfl) ⟨x0, x1, x2, x3⟩ (fun hH => ?_)
              refine tkH 0 (v := ?_) rfl (fun _ _ _ h => h) (Or.inl ⟨by rfl, ?_⟩) hH ?_
              rotate_left
              · intro w9 hSw
                try dsimp only at hSw
                obtain ⟨s0, s1, s2, s3⟩ := hSw
                go_simp
                try with_reducible rfl
              try simp only [Act.put, List.setIfInBounds_toArray, List.set_cons_zero, List.set_cons_succ]
              refine tkH 1 (v := ?_) rfl (fun _ _ _ h => h) (Or.inl ⟨by rfl, ?_⟩) hH ?_
              rotate_left
              · intro w9 hSw
                try dsimp only at hSw
                obtain ⟨s0, s1, s2, s3⟩ := hSw
                go_simp
                try with_reducible rfl
              try simp only [Act.put, List.setIfInBounds_toArray, List.set_cons_zero, List.set_cons_succ]
              refine tkH 3 (v := ?_) rfl (fun _ _ _ h => h) (Or.inl ⟨by rfl, ?_⟩) hH ?_
              rotate_left
              · intro w9 hSw
                try dsimp only at hSw
                obtain ⟨s0, s1, s2, s3⟩ := hSw
                go_simp
                try with_reducible rfl
              try simp only [Act.put, List.setIfInBounds_toArray, List.set_cons_zero, List.set_cons_succ]
              refine tkH 6 (v := ?_) rfl (fun _ _ _ h => h) (Or.inl ⟨by rfl, ?_⟩) hH ?_
              rotate_left
              · intro w9 hSw
                try dsimp only at hSw
                obtain ⟨s0, s1, s2, s3⟩ := hSw
                go_simp
                try with_reducible rfl
              try simp only [Act.put, List.setIfInBounds_toArray, List.set_cons_zero, List.set_cons_succ]
              refine tkH 7 (v := ?_) rfl (fun _ _ _ h => h) (Or.inl ⟨by rfl, ?_⟩) hH ?_
              rotate_left
              · intro w9 hSw
                try dsimp only at hSw
                obtain ⟨s0, s1, s2, s3⟩ := hSw
                go_simp
                try with_reducible rfl
              try simp only [Act.put, List.setIfInBounds_toArray, List.set_cons_zero, List.set_cons_succ]
              refine wpAnyH_ready (rs := [2, 4]) (by kernel_rfl) (by simp) ?_
              refine AllReadyH.cons rfl (fun K hK => ?_) (AllReadyH.cons rfl (fun K hK => ?_) AllReadyH.nil)
              · go_simp
                go_at_call 113
                refine (spec_l01Own _ _ _ g1 hlen2).mono ?_
                rintro e5 w5 ⟨x5, rfl, hO5, hB5⟩
                obtain ⟨X, cx, rfl⟩ := own_shape_n hO5 hLn.out
                have x0a := cell_keep (w := Vq.drew) x0 hB5
                have x1a := cell_keep (w := Vq.drew) x1 hB5
                have x2a := cell_keep (w := Vq.drew) x2 hB5
                have x3a := cell_keep (w := Vq.drew) x3 hB5
                refine hK.out _ _ ⟨x0a, x1a, x2a, x3a⟩ (fun hH => ?_)
                clear hK K
                try simp only [Act.put, List.setIfInBounds_toArray, List.set_cons_zero, List.set_cons_succ]
                have hZ : Below w5.heap.size w5 (w5.alloc (.cells #[.int .i64 (u : Nat)] 2)) := (Below.refl _ _).alloc (Nat.le_refl _) _
                have x0b := cell_keep x0a hZ
                have x1b := cell_keep x1a hZ
                have x2b := cell_keep x2a hZ
                have x3b := cell_keep x3a hZ
                have hLst := lst_new1 intCell 1 intCell_len w5 2 (u : Int) _ rfl _ rfl
                have hbs := Nat.le_trans hB5.size hZ.size
                refine wpAnyH_ready (rs := [4]) (by kernel_rfl) (by simp) ?_
                refine AllReadyH.cons rfl (fun K hK => ?_) AllReadyH.nil
                go_simp
                refine hK.out _ _ ⟨x0b, x1b, x2b, x3b⟩ (fun hH => ?_)
                clear hK K
                try simp only [Act.put, List.setIfInBounds_toArray, List.set_cons_zero, List.set_cons_succ]
                refine wpAnyH_ready (rs := [5]) (by kernel_rfl) (by simp) ?_
                refine AllReadyH.cons rfl (fun K hK => ?_) AllReadyH.nil
                refine step_append_lst rfl _ _ 38 rfl intCell 1 intCell_one (by omega) (Vq.drew.heap.size) 2 _ 8 Try.underlying38 info_i64 rfl _ (ints path) rfl (hO5.now hZ) _ _ _ _ [(u : Int)] rfl hLst hlen (by omega) hbs ?_
                intro v1 wz hO1 hG hD1
                obtain ⟨V1, cv1, rfl⟩ := own_shape_n hO1 hLL.out
                have hBz : Below Vq.drew.heap.size Vq.drew wz := below_app (hB5.trans (hZ.mono hB5.size)) hbs hG (hO5.now hZ) (Nat.le_refl _)
                have x0c := cell_keep (w := Vq.drew) x0 hBz
                have x1c := cell_keep (w := Vq.drew) x1 hBz
                have x2c := cell_keep (w := Vq.drew) x2 hBz
                have x3c := cell_keep (w := Vq.drew) x3 hBz
                refine hK.out _ _ ⟨x0c, x1c, x2c, x3c⟩ (fun hH => ?_)
                clear hK K
                try simp only [Act.put, List.setIfInBounds_toArray, List.set_cons_zero, List.set_cons_succ]
                refine wpAnyH_ready (rs := [8]) (by kernel_rfl) (by simp) ?_
                refine AllReadyH.cons rfl (fun K hK => ?_) AllReadyH.nil
                go_simp
                go_at_call 166
                rw [ints_snoc] at hO1
                refine (hih.out (f - 1) (by omega) (path ++ [u]) _ wz (by simp; omega) (g0.now hBz) hO1.lst hP2.out).mono ?_
                rintro e7 w7 ⟨v7, out, rfl, hL7, hF7, hB7⟩
                have x0d := cell_keep (w := Vq.drew) x0 (hBz.trans (hB7.mono hBz.size))
                have x1d := cell_keep (w := Vq.drew) x1 (hBz.trans (hB7.mono hBz.size))
                have x2d := cell_keep (w := Vq.drew) x2 (hBz.trans (hB7.mono hBz.size))
                have x3d := cell_keep (w := Vq.drew) x3 (hBz.trans (hB7.mono hBz.size))
                refine hK.out _ _ ⟨x0d, x1d, x2d, x3d⟩ (fun hH => ?_)
                clear hK K
                try simp only [Act.put, List.setIfInBounds_toArray, List.set_cons_zero, List.set_cons_succ]
                refine tkH 9 (v := ?_) rfl (fun _ _ _ h => h) (Or.inl ⟨by rfl, ?_⟩) hH ?_
                rotate_left
                · intro w9 hSw
                  try dsimp only at hSw
                  obtain ⟨s0, s1, s2, s3⟩ := hSw
                  go_simp
                  try with_reducible rfl
                try simp only [Act.put, List.setIfInBounds_toArray, List.set_cons_zero, List.set_cons_succ]
                refine wpAnyH_done (by kernel_rfl) ?_ _
                have hBt := hBV.trans ((hBd2.trans (hBz.trans (hB7.mono hBz.size))).mono hBV.size)
                obtain ⟨V7, c7, rfl⟩ := hL7.shape
                rw [ints_len] at hL7 ⊢
                clear x0 x1 x2 x3 x0a x1a x2a x3a x0b x1b x2b x3b x0c x1c x2c x3c x0d x1d x2d x3d hH
                by_cases ho : out = []
                · have q9 : decide ((0 : Int) < (out.length : Int)) = false := by rw [ho]; rfl
                  have q8 : out.length = 0 := by rw [ho]; rfl
                  have q7 : ¬ 0 < out.length := by omega
                  have hN' := Lib.hid (hNs.out (hF7.out.1 ho))
                  clear ho
                  go_wp2
                  go_roundw
                  all_goals (first | exact ⟨⟨u + 1, hlt, by go_num, hN'.out, hBt⟩, by simp [intOf]; omega⟩ | exact ⟨u + 1, hlt, by go_num, hN'.out, hBt⟩ | (simp [intOf]; omega) | rfl)
                · have q9 : decide ((0 : Int) < (out.length : Int)) = true := by have := List.length_pos_iff.2 ho; simp; omega
                  have q7 : 0 < out.length := List.length_pos_iff.2 ho
                  have hF : Hid (FoundC gp a bb ov path out) := ⟨fun h => absurd h ho, hF7.out.2⟩
                  clear ho
                  go_wp2
                  go_ret
                  exact ⟨_, out, rfl, hL7, hF.out, hW.trans (hBt.mono hW.size)⟩
              · have hZ : Below Vq.drew.heap.size Vq.drew (Vq.drew.alloc (.cells #[.int .i64 (u : Nat)] 2)) := (Below.refl _ _).alloc (Nat.le_refl _) _
                have x0b := cell_keep (w := Vq.drew) x0 hZ
                have x1b := cell_keep (w := Vq.drew) x1 hZ
                have x2b := cell_keep (w := Vq.drew) x2 hZ
                have x3b := cell_keep (w := Vq.drew) x3 hZ
                go_simp
                refine hK.out _ _ ⟨x0b, x1b, x2b, x3b⟩ (fun hH => ?_)
                clear hK K
                try simp only [Act.put, List.setIfInBounds_toArray, List.set_cons_zero, List.set_cons_succ]
                refine wpAnyH_ready (rs := [2]) (by kernel_rfl) (by simp) ?_
                refine AllReadyH.cons rfl (fun K hK => ?_) AllReadyH.nil
                go_simp
                go_at_call 113
                refine (spec_l01Own _ _ _ (g1.now hZ) hlen2).mono ?_
                rintro e5 w5 ⟨x5, rfl, hO5, hB5⟩
                obtain ⟨X, cx, rfl⟩ := own_shape_n hO5 hLn.out
                have x0a := cell_keep x0b hB5
                have x1a := cell_keep x1b hB5
                have x2a := cell_keep x2b hB5
                have x3a := cell_keep x3b hB5
                have hLst0 : Lst intCell 1 (Vq.drew.alloc (.cells #[.int .i64 (u : Nat)] 2)) (Vq.drew.alloc (.cells #[.int .i64 (u : Nat)] 2)).heap.size (.slice (some ⟨Vq.drew.heap.size, 0, none⟩) 1 1) [(u : Int)] := (lst_new1 intCell 1 intCell_len Vq.drew 2 (u : Int) _ rfl _ rfl).more (by simp)
                have hLst := hLst0.now hB5
                have hbs := hB5.size
                refine hK.out _ _ ⟨x0a, x1a, x2a, x3a⟩ (fun hH => ?_)
                clear hK K
                try simp only [Act.put, List.setIfInBounds_toArray, List.set_cons_zero, List.set_cons_succ]
                refine wpAnyH_ready (rs := [5]) (by kernel_rfl) (by simp) ?_
                refine AllReadyH.cons rfl (fun K hK => ?_) AllReadyH.nil
                refine step_append_lst rfl _ _ 38 rfl intCell 1 intCell_one (by omega) ((Vq.drew.alloc (.cells #[.int .i64 (u : Nat)] 2)).heap.size) 2 _ 8 Try.underlying38 info_i64 rfl _ (ints path) rfl hO5 _ _ _ _ [(u : Int)] rfl hLst hlen (by omega) hbs ?_
                intro v1 wz hO1 hG hD1
                obtain ⟨V1, cv1, rfl⟩ := own_shape_n hO1 hLL.out
                have hBz : Below Vq.drew.heap.size Vq.drew wz := below_app (hZ.trans (hB5.mono hZ.size)) (Nat.le_trans hZ.size hbs) hG hO5 hZ.size
                have x0c := cell_keep (w := Vq.drew) x0 hBz
                have x1c := cell_keep (w := Vq.drew) x1 hBz
                have x2c := cell_keep (w := Vq.drew) x2 hBz
                have x3c := cell_keep (w := Vq.drew) x3 hBz
                refine hK.out _ _ ⟨x0c, x1c, x2c, x3c⟩ (fun hH => ?_)
                clear hK K
                try simp only [Act.put, List.setIfInBounds_toArray, List.set_cons_zero, List.set_cons_succ]
                refine wpAnyH_ready (rs := [8]) (by kernel_rfl) (by simp) ?_
                refine AllReadyH.cons rfl (fun K hK => ?_) AllReadyH.nil
                go_simp
                go_at_call 166
                rw [ints_snoc] at hO1
                refine (hih.out (f - 1) (by omega) (path ++ [u]) _ wz (by simp; omega) (g0.now hBz) hO1.lst hP2.out).mono ?_
                rintro e7 w7 ⟨v7, out, rfl, hL7, hF7, hB7⟩
                have x0d := cell_keep (w := Vq.drew) x0 (hBz.trans (hB7.mono hBz.size))
                have x1d := cell_keep (w := Vq.drew) x1 (hBz.trans (hB7.mono hBz.size))
                have x2d := cell_keep (w := Vq.drew) x2 (hBz.trans (hB7.mono hBz.size))
                have x3d := cell_keep (w := Vq.drew) x3 (hBz.trans (hB7.mono hBz.size))
                refine hK.out _ _ ⟨x0d, x1d, x2d, x3d⟩ (fun hH => ?_)
                clear hK K
                try simp only [Act.put, List.setIfInBounds_toArray, List.set_cons_zero, List.set_cons_succ]
                refine tkH 9 (v := ?_) rfl (fun _ _ _ h => h) (Or.inl ⟨by rfl, ?_⟩) hH ?_
                rotate_left
                · intro w9 hSw
                  try dsimp only at hSw
                  obtain ⟨s0, s1, s2, s3⟩ := hSw
                  go_simp
                  try with_reducible rfl
                try simp only [Act.put, List.setIfInBounds_toArray, List.set_cons_zero, List.set_cons_succ]
                refine wpAnyH_done (by kernel_rfl) ?_ _
                have hBt := hBV.trans ((hBd2.trans (hBz.trans (hB7.mono hBz.size))).mono hBV.size)
                obtain ⟨V7, c7, rfl⟩ := hL7.shape
                rw [ints_len] at hL7 ⊢
                clear x0 x1 x2 x3 x0a x1a x2a x3a x0b x1b x2b x3b x0c x1c x2c x3c x0d x1d x2d x3d hH
                by_cases ho : out = []
                · have q9 : decide ((0 : Int) < (out.length : Int)) = false := by rw [ho]; rfl
                  have q8 : out.length = 0 := by rw [ho]; rfl
                  have q7 : ¬ 0 < out.length := by omega
                  have hN' := Lib.hid (hNs.out (hF7.out.1 ho))
                  clear ho
                  go_wp2
                  go_roundw
                  all_goals (first | exact ⟨⟨u + 1, hlt, by go_num, hN'.out, hBt⟩, by simp [intOf]; omega⟩ | exact ⟨u + 1, hlt, by go_num, hN'.out, hBt⟩ | (simp [intOf]; omega) | rfl)
                · have q9 : decide ((0 : Int) < (out.length : Int)) = true := by have := List.length_pos_iff.2 ho; simp; omega
                  have q7 : 0 < out.length := List.length_pos_iff.2 ho
                  have hF : Hid (FoundC gp a bb ov path out) := ⟨fun h => absurd h ho, hF7.out.2⟩
                  clear ho
                  go_wp2
                  go_ret
                  exact ⟨_, out, rfl, hL7, hF.out, hW.trans (hBt.mono hW.size)⟩
            · have q3 : (pd != fi) = true := by simpa using c3
              by_cases hvis : visB gp path pd = true
              · have hvs := Lib.hid hvis
                have hN' := Lib.hid (hNg.out (fun _ _ h => by
                  rcases h with h | h
                  · rw [hpsH.out.2] at h; exact absurd h c3
                  · rw [hpsH.out.2] at h; rw [visB_take' h] at hvis; cases hvis))
                clear c1 c3 hNg hvis
                go_wp2_with fail
                clear k0 k1 l0
                refine (spec_l15Visits _ n gp _ path pd _ g0 g1 hall hpb).mono ?_
                rintro e5 w5 ⟨rfl, hB5⟩
                rw [hvs.out]
                replace hBV := hBV.trans (hB5.mono hBV.size)
                clear hB5
                go_wp2
                go_roundw
                case rel => exact ⟨u + 1, hlt, by go_num, hN'.out, hBV⟩
                case measure => simp [intOf]; omega
              · have hvis2 : visB gp path pd = false := by simpa using hvis
                have hvs := Lib.hid hvis2
                have hP2 := Lib.hid (hPH.out.snoc hopen.out hlt (by rw [hpsH.out.1, hlst.out]; exact c1) (by rw [hpsH.out.2, hfst.out]; omega) (.inr (by rw [hpsH.out.2]; exact visB_not hvis2)))
                have hNs := Lib.hid (fun hb => hNg.out (fun _ _ _ => hb))
                clear c1 c3 hNg hvis hvis2
                go_wp2_with fail
                clear k0 k1 l0
                refine (spec_l15Visits _ n gp _ path pd _ g0 g1 hall hpb).mono ?_
                rintro e5 w5 ⟨rfl, hB5⟩
                rw [hvs.out]
                replace hBV := hBV.trans (hB5.mono hBV.size)
                clear hB5 d0 d1 d2 d3 hA2 hB g0 g1
                go_wp2_with fail
                generalize w5 = Vq at *
                have hBd2 : Below Vq.heap.size Vq Vq.drew := Below.drew (Below.refl _ Vq)
                obtain ⟨x0, x1⟩ := (hb0.now hBV).c2
                obtain ⟨x2, x3⟩ := (hb1.now hBV).c2
                replace x0 := cell_keep x0 hBd2
                replace x1 := cell_keep x1 hBd2
                replace x2 := cell_keep x2 hBd2
                replace x3 := cell_keep x3 hBd2
                have g0 := (h0.now hBV).now hBd2
                have g1 := (h1.now hBV).now hBd2
                have hlen2 : (ints path).length ≤ 1048576 := by rw [ints_len]; omega
                have hLn : Hid ((ints path).length = path.length) := ints_len path
                have hlen : (ints path).length + [(u : Int)].length ≤ 1099511627776 := by rw [ints_len]; simp; omega
                have hLL : Hid ((ints path ++ [(u : Int)]).length = path.length + 1) := by show _ = _; rw [List.length_append, ints_len]; rfl
                have hfp : 0 < f := by have h9 := hP2.out.len hok.out; simp at h9; omega
                refine wp_region_held_drew (S := fun w' => w'.cell? ⟨w.heap.size, 0, none⟩ = some (.int .i64 (n : Nat)) ∧ w'.cell? ⟨w.heap.size, 1, none⟩ = some (.slice (some ⟨b, off, none⟩) gp.length c) ∧ w'.cell? ⟨w.heap.size + 1, 0, none⟩ = some (.int .i64 a) ∧ w'.cell? ⟨w.heap.size + 1, 1, none⟩ = some (.int .i64 bb)) (by kernel_rfl) ⟨x0, x1, x2, x3⟩ (fun hH => ?_)
                refine tkH 0 (v := ?_) rfl (fun _ _ _ h => h) (Or.inl ⟨by rfl, ?_⟩) hH ?_
                rotate_left
                · intro w9 hSw
                  try dsimp only at hSw
                  obtain ⟨s0, s1, s2, s3⟩ := hSw
                  go_simp
                  try with_reducible rfl
                try simp only [Act.put, List.setIfInBounds_toArray, List.set_cons_zero, List.set_cons_succ]
                refine tkH 1 (v := ?_) rfl (fun _ _ _ h => h) (Or.inl ⟨by rfl, ?_⟩) hH ?_
                rotate_left
                · intro w9 hSw
                  try dsimp only at hSw
                  obtain ⟨s0, s1, s2, s3⟩ := hSw
                  go_simp
                  try with_reducible rfl
                try simp only [Act.put, List.setIfInBounds_toArray, List.set_cons_zero, List.set_cons_succ]
                refine tkH 3 (v := ?_) rfl (fun _ _ _ h => h) (Or.inl ⟨by rfl, ?_⟩) hH ?_
                rotate_left
                · intro w9 hSw
                  try dsimp only at hSw
                  obtain ⟨s0, s1, s2, s3⟩ := hSw
                  go_simp
                  try with_reducible rfl
                try simp only [Act.put, List.setIfInBounds_toArray, List.set_cons_zero, List.set_cons_succ]
                refine tkH 6 (v := ?_) rfl (fun _ _ _ h => h) (Or.inl ⟨by rfl, ?_⟩) hH ?_
                rotate_left
                · intro w9 hSw
                  try dsimp only at hSw
                  obtain ⟨s0, s1, s2, s3⟩ := hSw
                  go_simp
                  try with_reducible rfl
                try simp only [Act.put, List.setIfInBounds_toArray, List.set_cons_zero, List.set_cons_succ]
                refine tkH 7 (v := ?_) rfl (fun _ _ _ h => h) (Or.inl ⟨by rfl, ?_⟩) hH ?_
                rotate_left
                · intro w9 hSw
                  try dsimp only at hSw
                  obtain ⟨s0, s1, s2, s3⟩ := hSw
                  go_simp
                  try with_reducible rfl
                try simp only [Act.put, List.setIfInBounds_toArray, List.set_cons_zero, List.set_cons_succ]
                refine wpAnyH_ready (rs := [2, 4]) (by kernel_rfl) (by simp) ?_
                refine AllReadyH.cons rfl (fun K hK => ?_) (AllReadyH.cons rfl (fun K hK => ?_) AllReadyH.nil)
                · go_simp
                  go_at_call 113
                  refine (spec_l01Own _ _ _ g1 hlen2).mono ?_
                  rintro e5 w5 ⟨x5, rfl, hO5, hB5⟩
                  obtain ⟨X, cx, rfl⟩ := own_shape_n hO5 hLn.out
                  have x0a := cell_keep (w := Vq.drew) x0 hB5
                  have x1a := cell_keep (w := Vq.drew) x1 hB5
                  have x2a := cell_keep (w := Vq.drew) x2 hB5
                  have x3a := cell_keep (w := Vq.drew) x3 hB5
                  refine hK.out _ _ ⟨x0a, x1a, x2a, x3a⟩ (fun hH => ?_)
                  clear hK K
                  try simp only [Act.put, List.setIfInBounds_toArray, List.set_cons_zero, List.set_cons_succ]
                  have hZ : Below w5.heap.size w5 (w5.alloc (.cells #[.int .i64 (u : Nat)] 2)) := (Below.refl _ _).alloc (Nat.le_refl _) _
                  have x0b := cell_keep x0a hZ
                  have x1b := cell_keep x1a hZ
                  have x2b := cell_keep x2a hZ
                  have x3b := cell_keep x3a hZ
                  have hLst := lst_new1 intCell 1 intCell_len w5 2 (u : Int) _ rfl _ rfl
                  have hbs := Nat.le_trans hB5.size hZ.size
                  refine wpAnyH_ready (rs := [4]) (by kernel_rfl) (by simp) ?_
                  refine AllReadyH.cons rfl (fun K hK => ?_) AllReadyH.nil
                  go_simp
                  refine hK.out _ _ ⟨x0b, x1b, x2b, x3b⟩ (fun hH => ?_)
                  clear hK K
                  try simp only [Act.put, List.setIfInBounds_toArray, List.set_cons_zero, List.set_cons_succ]
                  refine wpAnyH_ready (rs := [5]) (by kernel_rfl) (by simp) ?_
                  refine AllReadyH.cons rfl (fun K hK => ?_) AllReadyH.nil
                  refine step_append_lst rfl _ _ 38 rfl intCell 1 intCell_one (by omega) (Vq.drew.heap.size) 2 _ 8 Try.underlying38 info_i64 rfl _ (ints path) rfl (hO5.now hZ) _ _ _ _ [(u : Int)] rfl hLst hlen (by omega) hbs ?_
                  intro v1 wz hO1 hG hD1
                  obtain ⟨V1, cv1, rfl⟩ := own_shape_n hO1 hLL.out
                  have hBz : Below Vq.drew.heap.size Vq.drew wz := below_app (hB5.trans (hZ.mono hB5.size)) hbs hG (hO5.now hZ) (Nat.le_refl _)
                  have x0c := cell_keep (w := Vq.drew) x0 hBz
                  have x1c := cell_keep (w := Vq.drew) x1 hBz
                  have x2c := cell_keep (w := Vq.drew) x2 hBz
                  have x3c := cell_keep (w := Vq.drew) x3 hBz
                  refine hK.out _ _ ⟨x0c, x1c, x2c, x3c⟩ (fun hH => ?_)
                  clear hK K
                  try simp only [Act.put, List.setIfInBounds_toArray, List.set_cons_zero, List.set_cons_succ]
                  refine wpAnyH_ready (rs := [8]) (by kernel_rfl) (by simp) ?_
                  refine AllReadyH.cons rfl (fun K hK => ?_) AllReadyH.nil
                  go_simp
                  go_at_call 166
                  rw [ints_snoc] at hO1
                  refine (hih.out (f - 1) (by omega) (path ++ [u]) _ wz (by simp; omega) (g0.now hBz) hO1.lst hP2.out).mono ?_
                  rintro e7 w7 ⟨v7, out, rfl, hL7, hF7, hB7⟩
                  have x0d := cell_keep (w := Vq.drew) x0 (hBz.trans (hB7.mono hBz.size))
                  have x1d := cell_keep (w := Vq.drew) x1 (hBz.trans (hB7.mono hBz.size))
                  have x2d := cell_keep (w := Vq.drew) x2 (hBz.trans (hB7.mono hBz.size))
                  have x3d := cell_keep (w := Vq.drew) x3 (hBz.trans (hB7.mono hBz.size))
                  refine hK.out _ _ ⟨x0d, x1d, x2d, x3d⟩ (fun hH => ?_)
                  clear hK K
                  try simp only [Act.put, List.setIfInBounds_toArray, List.set_cons_zero, List.set_cons_succ]
                  refine tkH 9 (v := ?_) rfl (fun _ _ _ h => h) (Or.inl ⟨by rfl, ?_⟩) hH ?_
                  rotate_left
                  · intro w9 hSw
                    try dsimp only at hSw
                    obtain ⟨s0, s1, s2, s3⟩ := hSw
                    go_simp
                    try with_reducible rfl
                  try simp only [Act.put, List.setIfInBounds_toArray, List.set_cons_zero, List.set_cons_succ]
                  refine wpAnyH_done (by kernel_rfl) ?_ _
                  have hBt := hBV.trans ((hBd2.trans (hBz.trans (hB7.mono hBz.size))).mono hBV.size)
                  obtain ⟨V7, c7, rfl⟩ := hL7.shape
                  rw [ints_len] at hL7 ⊢
                  clear x0 x1 x2 x3 x0a x1a x2a x3a x0b x1b x2b x3b x0c x1c x2c x3c x0d x1d x2d x3d hH
                  by_cases ho : out = []
                  · have q9 : decide ((0 : Int) < (out.length : Int)) = false := by rw [ho]; rfl
                    have q8 : out.length = 0 := by rw [ho]; rfl
                    have q7 : ¬ 0 < out.length := by omega
                    have hN' := Lib.hid (hNs.out (hF7.out.1 ho))
                    clear ho
                    go_wp2
                    go_roundw
                    all_goals (first | exact ⟨⟨u + 1, hlt, by go_num, hN'.out, hBt⟩, by simp [intOf]; omega⟩ | exact ⟨u + 1, hlt, by go_num, hN'.out, hBt⟩ | (simp [intOf]; omega) | rfl)
                  · have q9 : decide ((0 : Int) < (out.length : Int)) = true := by have := List.length_pos_iff.2 ho; simp; omega
                    have q7 : 0 < out.length := List.length_pos_iff.2 ho
                    have hF : Hid (FoundC gp a bb ov path out) := ⟨fun h => absurd h ho, hF7.out.2⟩
                    clear ho
                    go_wp2
                    go_ret
                    exact ⟨_, out, rfl, hL7, hF.out, hW.trans (hBt.mono hW.size)⟩
                · have hZ : Below Vq.drew.heap.size Vq.drew (Vq.drew.alloc (.cells #[.int .i64 (u : Nat)] 2)) := (Below.refl _ _).alloc (Nat.le_refl _) _
                  have x0b := cell_keep (w := Vq.drew) x0 hZ
                  have x1b := cell_keep (w := Vq.drew) x1 hZ
                  have x2b := cell_keep (w := Vq.drew) x2 hZ
                  have x3b := cell_keep (w := Vq.drew) x3 hZ
                  go_simp
                  refine hK.out _ _ ⟨x0b, x1b, x2b, x3b⟩ (fun hH => ?_)
                  clear hK K
                  try simp only [Act.put, List.setIfInBounds_toArray, List.set_cons_zero, List.set_cons_succ]
                  refine wpAnyH_ready (rs := [2]) (by kernel_rfl) (by simp) ?_
                  refine AllReadyH.cons rfl (fun K hK => ?_) AllReadyH.nil
                  go_simp
                  go_at_call 113
                  refine (spec_l01Own _ _ _ (g1.now hZ) hlen2).mono ?_
                  rintro e5 w5 ⟨x5, rfl, hO5, hB5⟩
                  obtain ⟨X, cx, rfl⟩ := own_shape_n hO5 hLn.out
                  have x0a := cell_keep x0b hB5
                  have x1a := cell_keep x1b hB5
                  have x2a := cell_keep x2b hB5
                  have x3a := cell_keep x3b hB5
                  have hLst0 : Lst intCell 1 (Vq.drew.alloc (.cells #[.int .i64 (u : Nat)] 2)) (Vq.drew.alloc (.cells #[.int .i64 (u : Nat)] 2)).heap.size (.slice (some ⟨Vq.drew.heap.size, 0, none⟩) 1 1) [(u : Int)] := (lst_new1 intCell 1 intCell_len Vq.drew 2 (u : Int) _ rfl _ rfl).more (by simp)
                  have hLst := hLst0.now hB5
                  have hbs := hB5.size
                  refine hK.out _ _ ⟨x0a, x1a, x2a, x3a⟩ (fun hH => ?_)
                  clear hK K
                  try simp only [Act.put, List.setIfInBounds_toArray, List.set_cons_zero, List.set_cons_succ]
                  refine wpAnyH_ready (rs := [5]) (by kernel_rfl) (by simp) ?_
                  refine AllReadyH.cons rfl (fun K hK => ?_) AllReadyH.nil
                  refine step_append_lst rfl _ _ 38 rfl intCell 1 intCell_one (by omega) ((Vq.drew.alloc (.cells #[.int .i64 (u : Nat)] 2)).heap.size) 2 _ 8 Try.underlying38 info_i64 rfl _ (ints path) rfl hO5 _ _ _ _ [(u : Int)] rfl hLst hlen (by omega) hbs ?_
                  intro v1 wz hO1 hG hD1
                  obtain ⟨V1, cv1, rfl⟩ := own_shape_n hO1 hLL.out
                  have hBz : Below Vq.drew.heap.size Vq.drew wz := below_app (hZ.trans (hB5.mono hZ.size)) (Nat.le_trans hZ.size hbs) hG hO5 hZ.size
                  have x0c := cell_keep (w := Vq.drew) x0 hBz
                  have x1c := cell_keep (w := Vq.drew) x1 hBz
                  have x2c := cell_keep (w := Vq.drew) x2 hBz
                  have x3c := cell_keep (w := Vq.drew) x3 hBz
                  refine hK.out _ _ ⟨x0c, x1c, x2c, x3c⟩ (fun hH => ?_)
                  clear hK K
                  try simp only [Act.put, List.setIfInBounds_toArray, List.set_cons_zero, List.set_cons_succ]
                  refine wpAnyH_ready (rs := [8]) (by kernel_rfl) (by simp) ?_
                  refine AllReadyH.cons rfl (fun K hK => ?_) AllReadyH.nil
                  go_simp
                  go_at_call 166
                  rw [ints_snoc] at hO1
                  refine (hih.out (f - 1) (by omega) (path ++ [u]) _ wz (by simp; omega) (g0.now hBz) hO1.lst hP2.out).mono ?_
                  rintro e7 w7 ⟨v7, out, rfl, hL7, hF7, hB7⟩
                  have x0d := cell_keep (w := Vq.drew) x0 (hBz.trans (hB7.mono hBz.size))
                  have x1d := cell_keep (w := Vq.drew) x1 (hBz.trans (hB7.mono hBz.size))
                  have x2d := cell_keep (w := Vq.drew) x2 (hBz.trans (hB7.mono hBz.size))
                  have x3d := cell_keep (w := Vq.drew) x3 (hBz.trans (hB7.mono hBz.size))
                  refine hK.out _ _ ⟨x0d, x1d, x2d, x3d⟩ (fun hH => ?_)
                  clear hK K
                  try simp only [Act.put, List.setIfInBounds_toArray, List.set_cons_zero, List.set_cons_succ]
                  refine tkH 9 (v := ?_) rfl (fun _ _ _ h => h) (Or.inl ⟨by rfl, ?_⟩) hH ?_
                  rotate_left
                  · intro w9 hSw
                    try dsimp only at hSw
                    obtain ⟨s0, s1, s2, s3⟩ := hSw
                    go_simp
                    try with_reducible rfl
                  try simp only [Act.put, List.setIfInBounds_toArray, List.set_cons_zero, List.set_cons_succ]
                  refine wpAnyH_done (by kernel_rfl) ?_ _
                  have hBt := hBV.trans ((hBd2.trans (hBz.trans (hB7.mono hBz.size))).mono hBV.size)
                  obtain ⟨V7, c7, rfl⟩ := hL7.shape
                  rw [ints_len] at hL7 ⊢
                  clear x0 x1 x2 x3 x0a x1a x2a x3a x0b x1b x2b x3b x0c x1c x2c x3c x0d x1d x2d x3d hH
                  by_cases ho : out = []
                  · have q9 : decide ((0 : Int) < (out.length : Int)) = false := by rw [ho]; rfl
                    have q8 : out.length = 0 := by rw [ho]; rfl
                    have q7 : ¬ 0 < out.length := by omega
                    have hN' := Lib.hid (hNs.out (hF7.out.1 ho))
                    clear ho
                    go_wp2
                    go_roundw
                    all_goals (first | exact ⟨⟨u + 1, hlt, by go_num, hN'.out, hBt⟩, by simp [intOf]; omega⟩ | exact ⟨u + 1, hlt, by go_num, hN'.out, hBt⟩ | (simp [intOf]; omega) | rfl)
                  · have q9 : decide ((0 : Int) < (out.length : Int)) = true := by have := List.length_pos_iff.2 ho; simp; omega
                    have q7 : 0 < out.length := List.length_pos_iff.2 ho
                    have hF : Hid (FoundC gp a bb ov path out) := ⟨fun h => absurd h ho, hF7.out.2⟩
                    clear ho
                    go_wp2
                    go_ret
                    exact ⟨_, out, rfl, hL7, hF.out, hW.trans (hBt.mono hW.size)⟩
        · have q1 : (ps != la) = true := by simpa using c1
          have hN' := Lib.hid (hNg.out (fun h _ _ => absurd (hpsH.out.1.symm.trans h) c1))
          clear c1 hNg
          go_wp2
          go_roundw
          case rel => exact ⟨u + 1, hlt, by go_num, hN'.out, hBV⟩
          case measure => simp [intOf]; omega
      · obtain rfl : u = gp.length := by omega
        obtain ⟨k0, k1⟩ := (hb0.now hB).c2
        have hF : Hid (FoundC gp a bb ov path []) := ⟨fun _ => barren_open hok.out hPH.out hopen.out (fun i h1 h2 h3 h4 => hN.out i h1 (h2.trans hlst.out) (by rw [← hfst.out]; exact h3) (by rw [← hfst.out]; exact h4)), fun h => absurd rfl h⟩
        go_wp2
        go_ret
        exact ⟨_, [], rfl, Lst.nil, hF.out, hW.trans (hB.mono hW.size)⟩
/-- What the reference's search of all circuits finds. -/
def OverR (gp : List Place) (a bb ov : Int) (out : List Nat) : Prop := (out = [] → ¬ OverC gp a bb ov) ∧ (out ≠ [] → circuitB gp (ints out) = true ∧ ov < cwL a bb gp (ints out))
theorem overR_all {gp : List Place} {a bb ov : Int} (h : ∀ x, x < gp.length → BarrenC gp a bb ov [x]) : OverR gp a bb ov [] := ⟨fun _ => all_barrenC h, fun h => absurd rfl h⟩
theorem barren_next {gp : List Place} {a bb ov : Int} {u : Nat} (hN : ∀ x, x < u → BarrenC gp a bb ov [x]) (h : BarrenC gp a bb ov [u]) : ∀ x, x < u + 1 → BarrenC gp a bb ov [x] := by
  intro x hx
  by_cases e : x = u
  · subst e; exact h
  · exact hN x (by omega)
set_option maxHeartbeats 8000000 in
set_option maxRecDepth 100000 in
theorem spec_l15Over (v : Value) (n : Nat) (gp : List Place) (a bb ov : Int) (w : World) (h0 : Lst Place.cells 4 w w.heap.size v gp) (hok : Hid (okGraph n gp = true)) (ha : -1000000 ≤ a ∧ a ≤ 1000000) (hb : 1 ≤ bb ∧ bb ≤ 1000000) :
    Calls Try.prog 133 #[.agg #[.int .i64 n, v], .agg #[.int .i64 a, .int .i64 bb], .int .i64 ov] w fun r w' => ∃ v' out, r = .returned v' ∧ Lst intCell 1 w' w'.heap.size v' (ints out) ∧ Hid (OverR gp a bb ov out) ∧ Below w.heap.size w w' := by
  obtain ⟨A, c, rfl⟩ := h0.shape
  have hgl := okGraph_len hok.out
  obtain ⟨hn1, hn2⟩ := okGraph_ev hok.out
  go_enter Try.func133, Try.ntmps133
  go_wp2
  have hW : Below w.heap.size w ((w.alloc (.cells #[.int .i64 (n : Int), .slice A gp.length c] 32)).alloc (.cells #[.int .i64 a, .int .i64 bb] 34)) := (((Below.refl _ _).alloc (Nat.le_refl _) _).alloc (by first | (simp; done) | (simp; omega)) _); have hb0 : Blk ((w.alloc (.cells #[.int .i64 (n : Int), .slice A gp.length c] 32)).alloc (.cells #[.int .i64 a, .int .i64 bb] 34)) (w.heap.size) 32 #[.int .i64 (n : Int), .slice A gp.length c] := ((Blk.newAt w _ (by first | rfl | (simp; done) | (simp; omega))).alloc _); have hb1 : Blk ((w.alloc (.cells #[.int .i64 (n : Int), .slice A gp.length c] 32)).alloc (.cells #[.int .i64 a, .int .i64 bb] 34)) (w.heap.size + 1) 34 #[.int .i64 a, .int .i64 bb] := (Blk.newAt (w.alloc (.cells #[.int .i64 (n : Int), .slice A gp.length c] 32)) _ (by first | rfl | (simp; done) | (simp; omega))); replace h0 := h0.now hW; have hsW : w.heap.size + 2 = ((w.alloc (.cells #[.int .i64 (n : Int), .slice A gp.length c] 32)).alloc (.cells #[.int .i64 a, .int .i64 bb] 34)).heap.size := (by first | rfl | (simp; done) | (simp; omega)); generalize ((w.alloc (.cells #[.int .i64 (n : Int), .slice A gp.length c] 32)).alloc (.cells #[.int .i64 a, .int .i64 bb] 34)) = W at *; replace hsW := Lib.hid hsW
  go_loopw [7, 8, 9] (fun i _ _ wr => ∃ u : Nat, u ≤ gp.length ∧ i = .int .i64 u ∧ Hid (∀ x, x < u → BarrenC gp a bb ov [x]) ∧ Below W.heap.size W wr) (fun i _ _ _ => gp.length - (intOf i).toNat)
  case atStart => exact ⟨0, Nat.zero_le _, rfl, fun x hx => absurd hx (by omega), Below.refl _ _⟩
  case round =>
    obtain ⟨u, hu, rfl, hN, hB⟩ := hrel
    by_cases hlt : u < gp.length
    · obtain ⟨b, off, hA1, _, d0, d1, d2, d3⟩ := places_at (h0.now hB) u hlt
      cases hA1
      obtain ⟨k0, k1⟩ := (hb0.now hB).c2
      obtain ⟨r0, r1⟩ := (hb1.now hB).c2
      have l0 := (hb0.now hB).lt
      have l1 := (hb1.now hB).lt
      obtain ⟨ps, hps⟩ : ∃ ps, gp[u].src = ps := ⟨_, rfl⟩
      obtain ⟨pd, hpd⟩ : ∃ pd, gp[u].dst = pd := ⟨_, rfl⟩
      obtain ⟨dl, hdl⟩ : ∃ dl, gp[u].delay = dl := ⟨_, rfl⟩
      obtain ⟨tk, htk⟩ : ∃ tk, gp[u].tokens = tk := ⟨_, rfl⟩
      rw [hps] at d0
      rw [hpd] at d1
      rw [hdl] at d2
      rw [htk] at d3
      have hpsH : Hid ((pl gp u).src = ps ∧ (pl gp u).dst = pd) := by rw [pl_at hlt]; exact ⟨hps, hpd⟩
      clear hps hpd hdl htk
      have i1 : (0 : Int) ≤ (u : Int) := by omega
      have i2 : (u : Int) < (gp.length : Int) := by omega
      have hA2 : Below wr.heap.size wr (wr.alloc (.cells #[.int .i64 ps, .int .i64 pd, .int .i64 dl, .int .i64 tk] 101)) := (Below.refl _ _).alloc (Nat.le_refl _) _
      by_cases c2 : pd < ps
      · have hBV := hB.trans (hA2.mono hB.size)
        have hN' := Lib.hid (barren_next hN.out (barren_down (a := a) (b := bb) (ov := ov) hok.out hlt (by rw [hpsH.out.1, hpsH.out.2]; exact c2)))
        clear hN
        go_wp2
        go_roundw
        case rel => exact ⟨u + 1, hlt, by go_num, hN'.out, hBV⟩
        case measure => simp [intOf]; omega
      · have hP := Lib.hid (PathC.one (gp := gp) (i := u) hlt (by rw [hpsH.out.1, hpsH.out.2]; omega))
        have hA3 : Below wr.heap.size wr ((wr.alloc (.cells #[.int .i64 ps, .int .i64 pd, .int .i64 dl, .int .i64 tk] 101)).alloc (.cells #[.int .i64 (u : Int)] 2)) := hA2.alloc (by simp) _
        have hBV := hB.trans (hA3.mono hB.size)
        have hLst : Lst intCell 1 ((wr.alloc (.cells #[.int .i64 ps, .int .i64 pd, .int .i64 dl, .int .i64 tk] 101)).alloc (.cells #[.int .i64 (u : Int)] 2)) ((wr.alloc (.cells #[.int .i64 ps, .int .i64 pd, .int .i64 dl, .int .i64 tk] 101)).alloc (.cells #[.int .i64 (u : Int)] 2)).heap.size (.slice (some ⟨wr.heap.size + 1, 0, none⟩) 1 1) (ints [u]) := (lst_new1 intCell 1 intCell_len (wr.alloc (.cells #[.int .i64 ps, .int .i64 pd, .int .i64 dl, .int .i64 tk] 101)) 2 (u : Int) _ rfl (wr.heap.size + 1) (by simp)).more (by simp)
        have g0 := h0.now hBV
        go_wp2_with fail
        clear d0 d1 d2 d3 k0 k1 r0 r1 l0 l1 hA2 hA3 hB
        refine (spec_l15Grow _ n gp a bb ov hok ha hb n [u] _ _ (by simp) g0 hLst hP.out).mono ?_
        rintro e5 w5 ⟨v5, out, rfl, hL5, hF5, hB5⟩
        obtain ⟨V5, c5, rfl⟩ := hL5.shape
        rw [ints_len] at hL5 ⊢
        replace hBV := hBV.trans (hB5.mono hBV.size)
        clear hB5 hLst g0
        by_cases ho : out = []
        · have q9 : decide ((0 : Int) < (out.length : Int)) = false := by rw [ho]; rfl
          have q8 : out.length = 0 := by rw [ho]; rfl
          have q7 : ¬ 0 < out.length := by omega
          have hN' := Lib.hid (barren_next hN.out (hF5.out.1 ho))
          clear ho hN
          go_wp2
          go_roundw
          case rel => exact ⟨u + 1, hlt, by go_num, hN'.out, hBV⟩
          case measure => simp [intOf]; omega
        · have q9 : decide ((0 : Int) < (out.length : Int)) = true := by have := List.length_pos_iff.2 ho; simp; omega
          have q7 : 0 < out.length := List.length_pos_iff.2 ho
          have hF : Hid (OverR gp a bb ov out) := ⟨fun h => absurd h ho, hF5.out.2⟩
          clear ho
          go_wp2
          go_ret
          exact ⟨_, out, rfl, hL5, hF.out, hW.trans (hBV.mono hW.size)⟩
    · obtain rfl : u = gp.length := by omega
      obtain ⟨k0, k1⟩ := (hb0.now hB).c2
      have hF := Lib.hid (overR_all hN.out)
      go_wp2
      go_ret
      exact ⟨_, [], rfl, Lst.nil, hF.out, hW.trans (hB.mono hW.size)⟩
/-- The numbers that a slice holds. -/
def readL (w : World) : Value → List Int
  | .slice (some ⟨b, off, none⟩) n _ => (List.range n).map fun i => cellI (w.cell? ⟨b, off + i, none⟩)
  | _ => []
theorem readL_of {w : World} {B : Nat} {v : Value} {l : List Int} (h : Lst intCell 1 w B v l) : readL w v = l := by
  obtain ⟨A, c, rfl⟩ := h.shape
  cases hl : l with
  | nil =>
    subst hl
    unfold readL
    split
    · rename_i h2
      injection h2 with _ h3 _
      simp only [List.length_nil] at h3
      subst h3
      rfl
    · rfl
  | cons x xs =>
    rw [← hl]
    have hp : 0 < l.length := by rw [hl]; simp
    obtain ⟨b, off, rfl, _, _⟩ := ints_at h 0 hp
    show (List.range l.length).map (fun i => cellI (w.cell? ⟨b, off + i, none⟩)) = l
    refine List.ext_getElem (by simp) fun i h1 h2 => ?_
    obtain ⟨b', off', hA, _, hc⟩ := ints_at h i h2
    cases hA
    simp only [List.getElem_map, List.getElem_range, hc]
    rfl
/-- What the reference's search has after each round. -/
def BestS (gp : List Place) (out : List Nat) : Prop := (out = [] → ¬ ∃ m, circuitB gp m = true) ∧ (out ≠ [] → circuitB gp (ints out) = true)
def BestR (gp : List Place) (out : List Nat) (ok : Bool) : Prop := (ok = false ∧ ¬ ∃ m, circuitB gp m = true) ∨ (ok = true ∧ circuitB gp (ints out) = true ∧ IsMax gp (ratN gp (ints out)) (ratD gp (ints out)))
set_option maxHeartbeats 8000000 in
set_option maxRecDepth 100000 in
theorem spec_l15Best (v : Value) (n : Nat) (gp : List Place) (w : World) (h0 : Lst Place.cells 4 w w.heap.size v gp) (hok : Hid (okGraph n gp = true)) (hl : Hid (∃ o, orderF n gp = some o)) :
    Calls Try.prog 162 #[.agg #[.int .i64 n, v]] w fun r w' => ∃ v' out ok, r = .returned (.tuple #[v', .bool ok]) ∧ Lst intCell 1 w' w'.heap.size v' (ints out) ∧ Hid (BestR gp out ok) ∧ Below w.heap.size w w' := by
  obtain ⟨A, c, rfl⟩ := h0.shape
  have hgl := okGraph_len hok.out
  obtain ⟨hn1, hn2⟩ := okGraph_ev hok.out
  go_enter Try.func162, Try.ntmps162
  go_wp2_with fail
  have hW : Below w.heap.size w (w.alloc (.cells #[.int .i64 (n:Int), .slice A gp.length c] 32)) := (Below.refl _ _).alloc (Nat.le_refl _) _; have hb0 : Blk (w.alloc (.cells #[.int .i64 (n:Int), .slice A gp.length c] 32)) w.heap.size 32 #[.int .i64 (n:Int), .slice A gp.length c] := Blk.new _ _ _; replace h0 := h0.now hW; generalize (w.alloc (.cells #[.int .i64 (n:Int), .slice A gp.length c] 32)) = W at *
  refine (spec_l15Over _ n gp 0 1 (-1) _ h0 hok (by omega) (by omega)).mono ?_
  rintro e w1 ⟨v1, out1, rfl, hL1, hF1, hB1⟩
  obtain ⟨V1, c1, rfl⟩ := hL1.shape
  rw [ints_len] at hL1 ⊢
  have hst : Hid (BestS gp out1) := ⟨fun h => over_any hok.out (hF1.out.1 h), fun h => (hF1.out.2 h).1⟩
  clear hF1
  obtain ⟨mu, hmu⟩ : ∃ mu : List Int → Nat, mu = fun l => if l = [] then 0 else muR (ratN gp l) (ratD gp l) + 1 := ⟨_, rfl⟩
  have hmuH : Hid (∀ m m' : List Int, circuitB gp m = true → circuitB gp m' = true → 0 < cwL (ratN gp m) (ratD gp m) gp m' → mu m' < mu m) := fun m m' h1 h2 h3 => by
    have e1 : m ≠ [] := by rintro rfl; cases h1
    have h4 := muR_lt hok.out hl.out (rat_facts hok.out hl.out h1).2.1 h2 h3
    rw [hmu]
    simp only [if_neg e1]
    split <;> omega
  clear hmu
  go_wp2
  go_loopw [4, 5, 6, 7, 8] (fun be _ _ _ _ wr => ∃ (out : List Nat) (BA : Option Addr) (bc : Nat), be = .slice BA out.length bc ∧ Lst intCell 1 wr wr.heap.size (.slice BA out.length bc) (ints out) ∧ Hid (BestS gp out) ∧ Below W.heap.size W wr) (fun be _ _ _ _ wr => mu (readL wr be))
  case atStart => exact ⟨out1, V1, c1, rfl, hL1, hst, hB1⟩
  case round =>
    clear hL1 hst hB1
    obtain ⟨out, BA, bc, rfl, hL, hS, hB⟩ := hrel
    obtain ⟨k0, k1⟩ := (hb0.now hB).c2
    have l0 := (hb0.now hB).lt
    by_cases ho : out = []
    · have q9 : decide ((0 : Int) < (out.length : Int)) = false := by rw [ho]; rfl
      have q8 : out.length = 0 := by rw [ho]; rfl
      have q7 : ¬ 0 < out.length := by omega
      have hF : Hid (BestR gp [] false) := .inl ⟨rfl, hS.out.1 ho⟩
      clear ho
      go_wp2
      go_ret2
      exact ⟨_, [], false, rfl, Lst.nil, hF.out, hW.trans (hB.mono hW.size)⟩
    · have q9 : decide ((0 : Int) < (out.length : Int)) = true := by have := List.length_pos_iff.2 ho; simp; omega
      have q7 : 0 < out.length := List.length_pos_iff.2 ho
      have hc := hS.out.2 ho
      have hcH := Lib.hid hc
      have hab : Hid (allB (ints out) 0 ((gp.length : Int) - 1) = true) := ((circuit_iff gp _).1 hc).2.1
      have hlen := circuit_len hok.out hc
      rw [ints_len] at hlen
      obtain ⟨⟨s1, s2⟩, s3, s4⟩ := sums_le hok.out hab.out (ints out).length (Nat.le_refl _)
      have htk := live_tokens hok.out hl.out hc
      have hmr := Lib.hid (readL_of hL)
      have hrl := rat_le hok.out hl.out hc
      obtain ⟨D, hD⟩ := Int.eq_ofNat_of_zero_le s1
      obtain ⟨M, hM⟩ := Int.eq_ofNat_of_zero_le s3
      have hDH := Lib.hid hD
      have hMH := Lib.hid hM
      rw [hD, ints_len] at s2
      rw [hM, ints_len] at s4
      rw [hM] at htk
      have hrn : Hid (lowN D M = ratN gp (ints out) ∧ lowD D M = ratD gp (ints out)) := by unfold ratN ratD; rw [hD, hM]; exact ⟨rfl, rfl⟩
      have hmax := Lib.hid (fun (hn : ¬ OverC gp (ratN gp (ints out)) (ratD gp (ints out)) 0) => (⟨over_own hok.out hl.out hc, fun m' h1 h2 => max_found hok.out hl.out hc hn h1 h2⟩ : OverC gp (ratN gp (ints out)) (ratD gp (ints out)) (-1) ∧ ∀ m', circuitB gp m' = true → -1 < cwL (ratN gp (ints out)) (ratD gp (ints out)) gp m' → IsMax gp (ratN gp m') (ratD gp m')))
      clear hc hD hM s1 s3 ho hS
      have hoL := Lib.hid (ints_len out)
      go_wp2_with fail
      refine (spec_l15Sums _ n gp _ (ints out) _ (h0.now hB) (by simpa [hoL.out] using hL) hok hab (by rw [hoL.out]; omega)).mono ?_
      rintro e w3 ⟨rfl, hB3⟩
      rw [hDH.out, hMH.out]
      clear k0 k1 l0
      replace hL := hL.now hB3
      replace hB := hB.trans (hB3.mono hB.size)
      clear hB3
      go_wp2_with fail
      refine (spec_l01Ratio D M _ (by omega) (by omega) (by omega)).mono ?_
      rintro e w4 ⟨rfl, hB4⟩
      rw [hrn.out.1, hrn.out.2]
      replace hL := hL.now hB4
      replace hB := hB.trans (hB4.mono hB.size)
      clear hB4 hDH hMH hrn s2 s4 htk
      obtain ⟨ra, hra⟩ : ∃ ra, ratN gp (ints out) = ra := ⟨_, rfl⟩
      obtain ⟨rb, hrb⟩ : ∃ rb, ratD gp (ints out) = rb := ⟨_, rfl⟩
      rw [hra, hrb] at hmax hrl
      have hraH := Lib.hid hra
      have hrbH := Lib.hid hrb
      simp only [hra, hrb]
      clear hra hrb
      have hA5 : Below w4.heap.size w4 (w4.alloc (.cells #[.int .i64 ra, .int .i64 rb] 34)) := (Below.refl _ _).alloc (Nat.le_refl _) _
      have hbr := Blk.newAt w4 (t := 34) (cs := #[.int .i64 ra, .int .i64 rb]) _ rfl
      obtain ⟨k0, k1⟩ := (hb0.now hB).c2
      have l0 := (hb0.now hB).lt
      have hB5 := hB.trans (hA5.mono hB.size)
      have g0 := h0.now hB5
      go_wp2_with fail
      clear k0 k1 l0 hA5 hB hL
      refine (spec_l15Over _ n gp ra rb 0 _ g0 hok (by omega) (by omega)).mono ?_
      rintro e w6 ⟨v6, nx, rfl, hL6, hF6, hB6⟩
      obtain ⟨V6, c6, rfl⟩ := hL6.shape
      rw [ints_len] at hL6 ⊢
      replace hB5 := hB5.trans (hB6.mono hB5.size)
      replace hbr := hbr.now hB6
      replace g0 := g0.now hB6
      clear hB6
      generalize w4.heap.size = br at *
      obtain ⟨k0, k1⟩ := (hb0.now hB5).c2
      obtain ⟨r0, r1⟩ := hbr.c2
      by_cases hn : nx = []
      · have p9 : ((nx.length : Int) == 0) = true := by rw [hn]; rfl
        have p8 : nx.length = 0 := by rw [hn]; rfl
        have hm2 := Lib.hid (hmax.out (hF6.out.1 hn))
        clear hn hmax
        go_wp2_with fail
        clear k0 k1 r0 r1
        refine (spec_l15Over _ n gp ra rb (-1) _ g0 hok (by omega) (by omega)).mono ?_
        rintro e w7 ⟨v7, bo, rfl, hL7, hF7, hB7⟩
        obtain ⟨V7, c7, rfl⟩ := hL7.shape
        rw [ints_len] at hL7 ⊢
        have hbo : bo ≠ [] := fun h => hF7.out.1 h hm2.out.1
        have hF : Hid (BestR gp bo true) := .inr ⟨rfl, (hF7.out.2 hbo).1, hm2.out.2 _ (hF7.out.2 hbo).1 (hF7.out.2 hbo).2⟩
        clear hbo
        go_wp2
        go_ret2
        exact ⟨_, bo, true, rfl, hL7, hF.out, hW.trans ((hB5.trans (hB7.mono hB5.size)).mono hW.size)⟩
      · have p9 : ((nx.length : Int) == 0) = false := by have := List.length_pos_iff.2 hn; simp; omega
        have p8 : 0 < nx.length := List.length_pos_iff.2 hn
        have p7 : ¬ nx.length = 0 := by omega
        have hnx := hF6.out.2 hn
        have hS' : Hid (BestS gp nx) := ⟨fun h => absurd h hn, fun _ => hnx.1⟩
        have hmlt := Lib.hid (hmuH.out _ _ hcH.out hnx.1 (by rw [hraH.out, hrbH.out]; exact hnx.2))
        have hmr2 := Lib.hid (readL_of hL6)
        clear hn hnx
        go_wp2
        go_roundw
        case rel => exact ⟨nx, V6, c6, rfl, hL6, hS'.out, hB5⟩
        case measure => rw [hmr.out, hmr2.out]; exact hmlt.out
/-- What the reference's best circuit is. -/
def BestC (ge : Int) (gp : List Place) (out : List Nat) (code : Int) : Prop :=
  (code ≠ 0 ∧ ctF ge gp = (0, 0, code)) ∨ (code = 0 ∧ okGraph ge gp = true ∧ (∃ o, orderF ge.toNat gp = some o) ∧ circuitB gp (ints out) = true ∧ ctF ge gp = (ratN gp (ints out), ratD gp (ints out), 0))
set_option maxHeartbeats 4000000 in
set_option maxRecDepth 100000 in
theorem spec_BestCircuit (v : Value) (ge : Int) (gp : List Place) (w : World) (h0 : Lst Place.cells 4 w w.heap.size v gp) :
    Calls Try.prog 128 #[.agg #[.int .i64 ge, v]] w fun r w' => ∃ v' out code, r = .returned (.tuple #[v', .int .i64 code]) ∧ Lst intCell 1 w' w'.heap.size v' (ints out) ∧ Hid (BestC ge gp out code) ∧ Below w.heap.size w w' := by
  obtain ⟨A, c, rfl⟩ := h0.shape
  go_enter Try.func128, Try.ntmps128
  go_wp2_with fail
  have hW : Below w.heap.size w (w.alloc (.cells #[.int .i64 ge, .slice A gp.length c] 32)) := (Below.refl _ _).alloc (Nat.le_refl _) _; have hb0 : Blk (w.alloc (.cells #[.int .i64 ge, .slice A gp.length c] 32)) w.heap.size 32 #[.int .i64 ge, .slice A gp.length c] := Blk.new _ _ _; replace h0 := h0.now hW; generalize (w.alloc (.cells #[.int .i64 ge, .slice A gp.length c] 32)) = W at *
  refine (spec_l12Live _ ge gp _ h0).mono ?_
  rintro e w1 ⟨rfl, hB⟩
  replace hW := hW.trans (hB.mono hW.size); replace h0 := h0.now hB; replace hb0 := hb0.now hB
  clear hB
  obtain ⟨k0, k1⟩ := hb0.c2
  cases hg : okGraph ge gp
  · have hc1 : liveC ge gp = 1 := by simp [liveC, hg]
    have hF : Hid (BestC ge gp [] 1) := .inl ⟨by decide, ct_eq (ct_bad hg)⟩
    rw [hc1]
    clear hg hc1
    go_wp2
    go_ret2
    exact ⟨_, [], 1, rfl, Lst.nil, hF.out, hW⟩
  · have hge := okGraph_ev hg
    obtain ⟨n, rfl⟩ := Int.eq_ofNat_of_zero_le (show 0 ≤ ge by omega)
    cases ho : orderF (n : Int).toNat gp with
    | none =>
      have hc1 : liveC n gp = 5 := by simp only [liveC, hg, ho]; rfl
      have hF : Hid (BestC n gp [] 5) := .inl ⟨by decide, ct_eq (ct_dead hg ho)⟩
      rw [hc1]
      clear hg hc1 ho
      go_wp2
      go_ret2
      exact ⟨_, [], 5, rfl, Lst.nil, hF.out, hW⟩
    | some o =>
      have hc1 : liveC n gp = 0 := by simp only [liveC, hg, ho]; rfl
      have hgH := Lib.hid hg
      have hoH : Hid (∃ o, orderF n gp = some o) := ⟨o, by simpa using ho⟩
      have hoI : Hid (∃ o, orderF (n : Int).toNat gp = some o) := ⟨o, ho⟩
      rw [hc1]
      clear hg hc1 ho
      go_wp2_with fail
      refine (spec_l15Best _ n gp _ h0 hgH hoH).mono ?_
      rintro e w2 ⟨v2, out, ok, rfl, hL, hR, hB⟩
      obtain ⟨V2, c2, rfl⟩ := hL.shape
      clear k0 k1
      replace hW := hW.trans (hB.mono hW.size)
      clear hB h0 hb0
      cases ok
      · have hF : Hid (BestC n gp [] 4) := by
          refine .inl ⟨by decide, ct_eq (ct_none hgH.out hoI.out ?_)⟩
          rcases hR.out with ⟨_, h⟩ | ⟨h, _⟩
          · exact h
          · cases h
        go_wp2
        go_ret2
        exact ⟨_, [], 4, rfl, Lst.nil, hF.out, hW⟩
      · have hF : Hid (BestC n gp out 0) := by
          rcases hR.out with ⟨h, _⟩ | ⟨_, h1, h2⟩
          · cases h
          · exact .inr ⟨rfl, hgH.out, hoI.out, h1, ct_eq (ct_some hgH.out hoI.out h2)⟩
        go_wp2
        go_ret2
        exact ⟨_, out, 0, rfl, hL, hF.out, hW⟩
set_option maxHeartbeats 4000000 in
set_option maxRecDepth 100000 in
theorem spec_CycleTime (v : Value) (ge : Int) (gp : List Place) (w : World) (h0 : Lst Place.cells 4 w w.heap.size v gp) :
    Calls Try.prog 68 #[.agg #[.int .i64 ge, v]] w fun e w' => e = .returned (.tuple #[.agg #[.int .i64 (ctF ge gp).1, .int .i64 (ctF ge gp).2.1], .int .i64 (ctF ge gp).2.2]) ∧ Below w.heap.size w w' := by
  obtain ⟨A, c, rfl⟩ := h0.shape
  go_enter Try.func68, Try.ntmps68
  go_wp2_with fail
  have hW : Below w.heap.size w ((w.alloc (.cells #[.int .i64 ge, .slice A gp.length c] 32)).alloc (.cells #[.int .i64 0, .int .i64 0] 34)) := (((Below.refl _ _).alloc (Nat.le_refl _) _).alloc (by first | (simp; done) | (simp; omega)) _); have hb0 : Blk ((w.alloc (.cells #[.int .i64 ge, .slice A gp.length c] 32)).alloc (.cells #[.int .i64 0, .int .i64 0] 34)) (w.heap.size) 32 #[.int .i64 ge, .slice A gp.length c] := ((Blk.newAt w _ (by first | rfl | (simp; done) | (simp; omega))).alloc _); have hb1 : Blk ((w.alloc (.cells #[.int .i64 ge, .slice A gp.length c] 32)).alloc (.cells #[.int .i64 0, .int .i64 0] 34)) (w.heap.size + 1) 34 #[.int .i64 0, .int .i64 0] := (Blk.newAt (w.alloc (.cells #[.int .i64 ge, .slice A gp.length c] 32)) _ (by first | rfl | (simp; done) | (simp; omega))); replace h0 := h0.now hW; have hsW : w.heap.size + 2 = ((w.alloc (.cells #[.int .i64 ge, .slice A gp.length c] 32)).alloc (.cells #[.int .i64 0, .int .i64 0] 34)).heap.size := (by first | rfl | (simp; done) | (simp; omega)); generalize ((w.alloc (.cells #[.int .i64 ge, .slice A gp.length c] 32)).alloc (.cells #[.int .i64 0, .int .i64 0] 34)) = W at *; replace hsW := Lib.hid hsW
  refine (spec_BestCircuit _ ge gp _ h0).mono ?_
  rintro e w1 ⟨v1, out, code, rfl, hL, hC, hB⟩
  obtain ⟨V1, c1, rfl⟩ := hL.shape
  rw [ints_len] at hL ⊢
  replace hW := hW.trans (hB.mono hW.size); replace h0 := h0.now hB; replace hb0 := hb0.now hB; replace hb1 := hb1.now hB
  clear hB
  obtain ⟨k0, k1⟩ := hb0.c2
  have lb := hb1.lt
  obtain ⟨z0, z1⟩ := hb1.f2
  rcases hC.out with ⟨hc0, hE0⟩ | ⟨rfl, hg, ho, hc, hE0⟩
  · have hE := Lib.hid hE0
    have q1 : (code != 0) = true := by simpa using hc0
    obtain ⟨r0, r1⟩ := hb1.c2
    clear hE0 hc0
    go_wp2
    refine bodyPost_ret (v := .tuple #[.agg #[.int .i64 0, .int .i64 0], .int .i64 code]) (by simp [results, Try.results68, go_sem, r0, r1]) rfl (retR_of hE.out rfl ?_)
    first | exact hW | exact (hW.setCell (by simp <;> omega) _).setCell (by simp <;> omega) _
  · have hE := Lib.hid hE0
    have hge := okGraph_ev hg
    obtain ⟨n, rfl⟩ := Int.eq_ofNat_of_zero_le (show 0 ≤ ge by omega)
    have hgH := Lib.hid hg
    have hgl := okGraph_len hg
    have hab : Hid (allB (ints out) 0 ((gp.length : Int) - 1) = true) := ((circuit_iff gp _).1 hc).2.1
    have hlen := circuit_len hg hc
    rw [ints_len] at hlen
    obtain ⟨⟨s1, s2⟩, s3, s4⟩ := sums_le hg hab.out (ints out).length (Nat.le_refl _)
    have htk := live_tokens hg (by simpa using ho) hc
    obtain ⟨D, hD⟩ := Int.eq_ofNat_of_zero_le s1
    obtain ⟨M, hM⟩ := Int.eq_ofNat_of_zero_le s3
    have hDH := Lib.hid hD
    have hMH := Lib.hid hM
    rw [hD, ints_len] at s2
    rw [hM, ints_len] at s4
    rw [hM] at htk
    have hrn : Hid (lowN D M = ratN gp (ints out) ∧ lowD D M = ratD gp (ints out)) := by unfold ratN ratD; rw [hD, hM]; exact ⟨rfl, rfl⟩
    have hoL := Lib.hid (ints_len out)
    clear hE0 ho hc hg hD hM s1 s3
    go_wp2_with fail
    refine (spec_l15Sums _ n gp _ (ints out) _ h0 (by simpa [hoL.out] using hL) hgH hab (by rw [hoL.out]; omega)).mono ?_
    rintro e w3 ⟨rfl, hB⟩
    rw [hDH.out, hMH.out]
    clear k0 k1 lb z0 z1
    replace hW := hW.trans (hB.mono hW.size); replace hb1 := hb1.now hB
    clear hB
    go_wp2_with fail
    refine (spec_l01Ratio D M _ (by omega) (by omega) (by omega)).mono ?_
    rintro e w4 ⟨rfl, hB⟩
    rw [hrn.out.1, hrn.out.2]
    replace hW := hW.trans (hB.mono hW.size); replace hb1 := hb1.now hB
    clear hB hDH hMH hrn s2 s4 htk
    obtain ⟨ra, hra⟩ : ∃ ra, ratN gp (ints out) = ra := ⟨_, rfl⟩
    obtain ⟨rb, hrb⟩ : ∃ rb, ratD gp (ints out) = rb := ⟨_, rfl⟩
    rw [hra, hrb] at hE
    simp only [hra, hrb]
    clear hra hrb
    have lb := hb1.lt
    obtain ⟨z0, z1⟩ := hb1.f2
    obtain ⟨r0, r1⟩ := hb1.c2
    go_wp2
    refine bodyPost_ret (v := .tuple #[.agg #[.int .i64 ra, .int .i64 rb], .int .i64 0]) (by simp [results, Try.results68, go_sem, r0, r1]) rfl (retR_of hE.out rfl ?_)
    first | exact hW | exact (hW.setCell (by simp <;> omega) _).setCell (by simp <;> omega) _
end Go.Proofs.Ytbdklhahbeiffaa
