/-
  The matrix of the places without tokens.
-/
import Derived.Test.YtpkkkigiiaegfaaOrdP
import Derived.Test.YtpkkkigiiaegfaaDelay
namespace Go.Proofs.Ytpkkkigiiaegfaa
open Go.RowKit
set_option linter.unusedVariables false
set_option linter.unusedSimpArgs false

def freeF (l : List Place) : Nat → Nat → Int := l.foldl (fun F p => if p.tokens = 0 then updF F p.dst.toNat p.src.toNat 0 else F) (fun _ _ => bot)
theorem freeF_succ (l : List Place) (k : Nat) (h : k < l.length) : freeF (l.take (k + 1)) = if l[k].tokens = 0 then updF (freeF (l.take k)) l[k].dst.toNat l[k].src.toNat 0 else freeF (l.take k) := by
  unfold freeF
  rw [take_succ_get _ _ h, List.foldl_append]
  rfl
theorem freeF_cases (l : List Place) (d s : Nat) : ∀ k, k ≤ l.length → (freeF (l.take k) d s = 0 ∧ ∃ p ∈ l.take k, p.tokens = 0 ∧ p.dst.toNat = d ∧ p.src.toNat = s) ∨ (freeF (l.take k) d s = bot ∧ ¬ ∃ p ∈ l.take k, p.tokens = 0 ∧ p.dst.toNat = d ∧ p.src.toNat = s) := by
  intro k
  induction k with
  | zero => intro _; right; simp [freeF]
  | succ k ih =>
    intro hk
    have hlt : k < l.length := by omega
    rw [freeF_succ _ _ hlt, take_succ_get _ _ hlt]
    by_cases ht : l[k].tokens = 0
    · rw [if_pos ht]
      unfold updF
      by_cases hc : d = l[k].dst.toNat ∧ s = l[k].src.toNat
      · rw [if_pos hc]
        exact .inl ⟨rfl, l[k], List.mem_append_right _ (List.mem_singleton.2 rfl), ht, hc.1.symm, hc.2.symm⟩
      · rw [if_neg hc]
        rcases ih (by omega) with ⟨h1, p, hp, h2⟩ | ⟨h1, h2⟩
        · exact .inl ⟨h1, p, List.mem_append_left _ hp, h2⟩
        · refine .inr ⟨h1, fun ⟨p, hp, h3⟩ => ?_⟩
          rcases List.mem_append.1 hp with hp | hp
          · exact h2 ⟨p, hp, h3⟩
          · rw [List.mem_singleton.1 hp] at h3
            exact hc ⟨h3.2.1.symm, h3.2.2.symm⟩
    · rw [if_neg ht]
      rcases ih (by omega) with ⟨h1, p, hp, h2⟩ | ⟨h1, h2⟩
      · exact .inl ⟨h1, p, List.mem_append_left _ hp, h2⟩
      · refine .inr ⟨h1, fun ⟨p, hp, h3⟩ => ?_⟩
        rcases List.mem_append.1 hp with hp | hp
        · exact h2 ⟨p, hp, h3⟩
        · rw [List.mem_singleton.1 hp] at h3
          exact ht h3.1
theorem freeF_arc {ge : Int} {gp : List Place} (hok : okGraph ge gp = true) (d s : Nat) : (arcG gp s d ∧ freeF gp d s = 0) ∨ (¬ arcG gp s d ∧ freeF gp d s = bot) := by
  have := freeF_cases gp d s gp.length (Nat.le_refl _)
  rw [List.take_length] at this
  have conv : (∃ p ∈ gp, p.tokens = 0 ∧ p.dst.toNat = d ∧ p.src.toNat = s) ↔ arcG gp s d := by
    constructor
    · rintro ⟨p, hp, h1, h2, h3⟩
      have := okGraph_place hok hp
      exact ⟨p, hp, by omega, by omega, h1⟩
    · rintro ⟨p, hp, h1, h2, h3⟩
      exact ⟨p, hp, h3, by omega, by omega⟩
  rw [conv] at this
  rcases this with h | h
  · exact .inl ⟨h.2, h.1⟩
  · exact .inr ⟨h.2, h.1⟩
def freeM (n : Nat) (gp : List Place) : List (List Int) := matF n (freeF gp) n
theorem freeM_len (n : Nat) (gp : List Place) : (freeM n gp).length = n := matF_len _ _ _
theorem freeM_get (n : Nat) (gp : List Place) (i j : Nat) (h : i < (freeM n gp).length) (h2 : j < ((freeM n gp)[i]).length) : ((freeM n gp)[i])[j] = freeF gp i j := by
  simp [freeM, matF_get]
theorem freeM_row (n : Nat) (gp : List Place) (i : Nat) (h : i < (freeM n gp).length) : ((freeM n gp)[i]).length = n := by simp [freeM, matF_get]
set_option maxHeartbeats 4000000 in
set_option maxRecDepth 100000 in
theorem spec_l12Free (v : Value) (n : Nat) (gp : List Place) (w : World) (h0 : Lst Place.cells 4 w w.heap.size v gp) (hok : okGraph n gp = true) :
    Calls Try.prog 225 #[.agg #[.int .i64 n, v]] w (RetM w (freeM n gp)) := by
  obtain ⟨A, c, rfl⟩ := h0.shape
  obtain ⟨hge1, hge2⟩ := okGraph_ev hok
  have hgl := okGraph_len hok
  have hg' := Lib.hid hok
  clear hok
  go_enter Try.func225, Try.ntmps225
  go_wp2_with fail
  have hW : Below w.heap.size w (w.alloc (.cells #[.int .i64 (n:Int), .slice A gp.length c] 32)) := (Below.refl _ _).alloc (Nat.le_refl _) _; have hb0 : Blk (w.alloc (.cells #[.int .i64 (n:Int), .slice A gp.length c] 32)) w.heap.size 32 #[.int .i64 (n:Int), .slice A gp.length c] := Blk.new _ _ _; replace h0 := h0.now hW; generalize (w.alloc (.cells #[.int .i64 (n:Int), .slice A gp.length c] 32)) = W at *
  have hWs := hW.size
  obtain ⟨k0, k1⟩ := hb0.c2
  go_wp2_with fail
  refine (l02Bottom n n W (by omega) (by omega)).mono ?_
  rintro e w1 ⟨u, rfl, hM, hB⟩
  have hLM : (matF n (fun _ _ => bot) n).length = n := matF_len _ _ _
  obtain ⟨A1, c1, rfl⟩ := hM.shape
  rw [hLM] at hM ⊢
  clear hLM k0 k1
  obtain ⟨k0, k1⟩ := (hb0.now hB).c2
  have l0 := (hb0.now hB).lt
  go_wp2
  go_loopw [4] (fun i wr => ∃ k : Nat, k ≤ gp.length ∧ i = .int .i64 k ∧ OwnM wr W.heap.size (.slice A1 n c1) (matF n (freeF (gp.take k)) n) ∧ Below W.heap.size W wr) (fun i _ => gp.length - (intOf i).toNat)
  case atStart => exact ⟨0, Nat.zero_le _, rfl, by simpa [freeF] using hM, hB⟩
  case round =>
    clear hM k0 k1 l0
    obtain ⟨k, hk, rfl, hM, hBr⟩ := hrel
    have hs := hBr.size
    have lb := ((hb0.now hBr)).lt
    obtain ⟨k0, k1⟩ := (hb0.now hBr).c2
    by_cases hlt : k < gp.length
    · obtain ⟨b0, off, hA0, hbb, d0, d1, d2, d3⟩ := places_at (h0.now hBr) k hlt
      cases hA0
      have hp := okGraph_place hg'.out (List.getElem_mem hlt)
      obtain ⟨s, hs0⟩ := Int.eq_ofNat_of_zero_le hp.1.1
      obtain ⟨d, hd0⟩ := Int.eq_ofNat_of_zero_le hp.2.1.1
      have hsn : s < n := by omega
      have hdn : d < n := by omega
      have hS := freeF_succ gp k hlt
      rw [hs0, hd0, Int.toNat_natCast, Int.toNat_natCast] at hS
      rw [hs0] at d0
      rw [hd0] at d1
      have hS' := Lib.hid hS
      clear hS hs0 hd0
      by_cases htk : gp[k].tokens = 0
      · have hS2 := hS'.out
        rw [if_pos htk] at hS2
        have hS3 := Lib.hid hS2
        have hq : (gp[k].tokens == 0) = true := by simp [htk]
        clear hS' hS2 htk
        have hdl : d < (matF n (freeF (gp.take k)) n).length := by rw [matF_len]; exact hdn
        obtain ⟨g, cu, r, hu, hgb, hgl, hfz, hcd, hr, hne, hset, _⟩ := hM.row d hdl
        rw [matF_len] at hu
        cases hu
        rw [matF_get] at hr
        obtain ⟨b, cr, hv, hbB, hbl0, _⟩ := hr.at_ intCell_len s (by simpa using hsn)
        rw [List.length_map, List.length_range] at hv
        rw [hv] at hcd hr hset
        obtain ⟨_, _, hfr, hce⟩ := own_ints_at hr s (by simpa using hsn)
        have hset' := Lib.hid hset
        clear hset hv hne
        have hBd : Below wr.heap.size wr wr.drew := Below.drew (Below.refl _ wr)
        have i1 : (0 : Int) ≤ (s : Int) := by omega
        have i2 : (s : Int) < (n : Int) := by omega
        have i3 : (0 : Int) ≤ (d : Int) := by omega
        have i4 : (d : Int) < (n : Int) := by omega
        have i5 : (0 : Int) ≤ (k : Int) := by omega
        have i6 : (k : Int) < (gp.length : Int) := by omega
        have fr : ∀ j, wr.drew.frozen? ⟨b, j, none⟩ = false := hfr
        have z0 : wr.drew.cell? ⟨b0, off + k * 4, none⟩ = some (.int .i64 s) := d0
        have z1 : wr.drew.cell? ⟨b0, off + k * 4 + 1, none⟩ = some (.int .i64 d) := d1
        have z2 : wr.drew.cell? ⟨w.heap.size, 1, none⟩ = some (.slice (some ⟨b0, off, none⟩) gp.length c) := k1
        have z3 : wr.drew.cell? ⟨g, d, none⟩ = some (.slice (some ⟨b, 0, none⟩) n cr) := hcd
        go_wp2
        refine wp_region_E (fun w' => w'.cell? ⟨b0, off + k * 4, none⟩ = some (.int .i64 (s : Nat)) ∧ w'.cell? ⟨b0, off + k * 4 + 1, none⟩ = some (.int .i64 (d : Nat)) ∧ w'.cell? ⟨w.heap.size, 1, none⟩ = some (.slice (some ⟨b0, off, none⟩) gp.length c) ∧ w'.cell? ⟨g, d, none⟩ = some (.slice (some ⟨b, 0, none⟩) n cr)) 16 (by kernel_rfl) ?_
        have hS0 : (fun w' : World => w'.cell? ⟨b0, off + k * 4, none⟩ = some (.int .i64 (s : Nat)) ∧ w'.cell? ⟨b0, off + k * 4 + 1, none⟩ = some (.int .i64 (d : Nat)) ∧ w'.cell? ⟨w.heap.size, 1, none⟩ = some (.slice (some ⟨b0, off, none⟩) gp.length c) ∧ w'.cell? ⟨g, d, none⟩ = some (.slice (some ⟨b, 0, none⟩) n cr)) wr.drew := ⟨z0, z1, z2, z3⟩
        refine wpAnyE_take (i := 0) (v := ?_) rfl (by kernel_rfl) (by kernel_rfl) (by kernel_rfl) (by kernel_rfl) (by kernel_rfl) (fun _ _ _ h => h) hS0 (by rfl) ?_ ?_
        rotate_left
        · intro w9 hSw
          try dsimp only at hSw
          obtain ⟨s0, s1, s2, s3⟩ := hSw
          go_simp
          try with_reducible rfl
        try simp only [Act.put, List.setIfInBounds_toArray, List.set_cons_zero, List.set_cons_succ]
        refine wpAnyE_take (i := 1) (v := ?_) rfl (by kernel_rfl) (by kernel_rfl) (by kernel_rfl) (by kernel_rfl) (by kernel_rfl) (fun _ _ _ h => h) hS0 (by rfl) ?_ ?_
        rotate_left
        · intro w9 hSw
          try dsimp only at hSw
          obtain ⟨s0, s1, s2, s3⟩ := hSw
          go_simp
          try with_reducible rfl
        try simp only [Act.put, List.setIfInBounds_toArray, List.set_cons_zero, List.set_cons_succ]
        refine wpAnyE_take (i := 2) (v := ?_) rfl (by kernel_rfl) (by kernel_rfl) (by kernel_rfl) (by kernel_rfl) (by kernel_rfl) (fun _ _ _ h => h) hS0 (by rfl) ?_ ?_
        rotate_left
        · intro w9 hSw
          try dsimp only at hSw
          obtain ⟨s0, s1, s2, s3⟩ := hSw
          go_simp
          try with_reducible rfl
        try simp only [Act.put, List.setIfInBounds_toArray, List.set_cons_zero, List.set_cons_succ]
        refine wpAnyE_take (i := 3) (v := ?_) rfl (by kernel_rfl) (by kernel_rfl) (by kernel_rfl) (by kernel_rfl) (by kernel_rfl) (fun _ _ _ h => h) hS0 (by rfl) ?_ ?_
        rotate_left
        · intro w9 hSw
          try dsimp only at hSw
          obtain ⟨s0, s1, s2, s3⟩ := hSw
          go_simp
          try with_reducible rfl
        try simp only [Act.put, List.setIfInBounds_toArray, List.set_cons_zero, List.set_cons_succ]
        refine wpAnyE_take (i := 4) (v := ?_) rfl (by kernel_rfl) (by kernel_rfl) (by kernel_rfl) (by kernel_rfl) (by kernel_rfl) (fun _ _ _ h => h) hS0 (by rfl) ?_ ?_
        rotate_left
        · intro w9 hSw
          try dsimp only at hSw
          obtain ⟨s0, s1, s2, s3⟩ := hSw
          go_simp
          try with_reducible rfl
        try simp only [Act.put, List.setIfInBounds_toArray, List.set_cons_zero, List.set_cons_succ]
        refine wpAnyE_take (i := 5) (v := ?_) rfl (by kernel_rfl) (by kernel_rfl) (by kernel_rfl) (by kernel_rfl) (by kernel_rfl) (fun _ _ _ h => h) hS0 (by rfl) ?_ ?_
        rotate_left
        · intro w9 hSw
          try dsimp only at hSw
          obtain ⟨s0, s1, s2, s3⟩ := hSw
          go_simp
          try with_reducible rfl
        try simp only [Act.put, List.setIfInBounds_toArray, List.set_cons_zero, List.set_cons_succ]
        refine wpAnyE_take (i := 6) (v := ?_) rfl (by kernel_rfl) (by kernel_rfl) (by kernel_rfl) (by kernel_rfl) (by kernel_rfl) (fun _ _ _ h => h) hS0 (by rfl) ?_ ?_
        rotate_left
        · intro w9 hSw
          try dsimp only at hSw
          obtain ⟨s0, s1, s2, s3⟩ := hSw
          go_simp
          try with_reducible rfl
        try simp only [Act.put, List.setIfInBounds_toArray, List.set_cons_zero, List.set_cons_succ]
        refine wpAnyE_take (i := 7) (v := ?_) rfl (by kernel_rfl) (by kernel_rfl) (by kernel_rfl) (by kernel_rfl) (by kernel_rfl) (fun _ _ _ h => h) hS0 (by rfl) ?_ ?_
        rotate_left
        · intro w9 hSw
          try dsimp only at hSw
          obtain ⟨s0, s1, s2, s3⟩ := hSw
          go_simp
          try with_reducible rfl
        try simp only [Act.put, List.setIfInBounds_toArray, List.set_cons_zero, List.set_cons_succ]
        refine wpAnyE_take (i := 8) (v := ?_) rfl (by kernel_rfl) (by kernel_rfl) (by kernel_rfl) (by kernel_rfl) (by kernel_rfl) (fun _ _ _ h => h) hS0 (by rfl) ?_ ?_
        rotate_left
        · intro w9 hSw
          try dsimp only at hSw
          obtain ⟨s0, s1, s2, s3⟩ := hSw
          go_simp
          try with_reducible rfl
        try simp only [Act.put, List.setIfInBounds_toArray, List.set_cons_zero, List.set_cons_succ]
        refine wpAnyE_take (i := 9) (v := ?_) rfl (by kernel_rfl) (by kernel_rfl) (by kernel_rfl) (by kernel_rfl) (by kernel_rfl) (fun _ _ _ h => h) hS0 (by rfl) ?_ ?_
        rotate_left
        · intro w9 hSw
          try dsimp only at hSw
          obtain ⟨s0, s1, s2, s3⟩ := hSw
          go_simp
          try with_reducible rfl
        try simp only [Act.put, List.setIfInBounds_toArray, List.set_cons_zero, List.set_cons_succ]
        refine wpAnyE_take (i := 10) (v := ?_) rfl (by kernel_rfl) (by kernel_rfl) (by kernel_rfl) (by kernel_rfl) (by kernel_rfl) (fun _ _ _ h => h) hS0 (by rfl) ?_ ?_
        rotate_left
        · intro w9 hSw
          try dsimp only at hSw
          obtain ⟨s0, s1, s2, s3⟩ := hSw
          go_simp
          try with_reducible rfl
        try simp only [Act.put, List.setIfInBounds_toArray, List.set_cons_zero, List.set_cons_succ]
        refine wpAnyE_take (i := 11) (v := ?_) rfl (by kernel_rfl) (by kernel_rfl) (by kernel_rfl) (by kernel_rfl) (by kernel_rfl) (fun _ _ _ h => h) hS0 (by rfl) ?_ ?_
        rotate_left
        · intro w9 hSw
          try dsimp only at hSw
          obtain ⟨s0, s1, s2, s3⟩ := hSw
          go_simp
          try with_reducible rfl
        try simp only [Act.put, List.setIfInBounds_toArray, List.set_cons_zero, List.set_cons_succ]
        refine wpAnyE_take (i := 12) (v := ?_) rfl (by kernel_rfl) (by kernel_rfl) (by kernel_rfl) (by kernel_rfl) (by kernel_rfl) (fun _ _ _ h => h) hS0 (by rfl) ?_ ?_
        rotate_left
        · intro w9 hSw
          try dsimp only at hSw
          obtain ⟨s0, s1, s2, s3⟩ := hSw
          go_simp
          try with_reducible rfl
        try simp only [Act.put, List.setIfInBounds_toArray, List.set_cons_zero, List.set_cons_succ]
        refine wpAnyE_take (i := 13) (v := ?_) rfl (by kernel_rfl) (by kernel_rfl) (by kernel_rfl) (by kernel_rfl) (by kernel_rfl) (fun _ _ _ h => h) hS0 (by rfl) ?_ ?_
        rotate_left
        · intro w9 hSw
          try dsimp only at hSw
          obtain ⟨s0, s1, s2, s3⟩ := hSw
          go_simp
          try with_reducible rfl
        try simp only [Act.put, List.setIfInBounds_toArray, List.set_cons_zero, List.set_cons_succ]
        refine wpAnyE_take (i := 14) (v := ?_) rfl (by kernel_rfl) (by kernel_rfl) (by kernel_rfl) (by kernel_rfl) (by kernel_rfl) (fun _ _ _ h => h) hS0 (by rfl) ?_ ?_
        rotate_left
        · intro w9 hSw
          try dsimp only at hSw
          obtain ⟨s0, s1, s2, s3⟩ := hSw
          go_simp
          try with_reducible rfl
        try simp only [Act.put, List.setIfInBounds_toArray, List.set_cons_zero, List.set_cons_succ]
        refine wpAnyE_take (i := 15) (v := ?_) rfl (by kernel_rfl) (by kernel_rfl) (by kernel_rfl) (by kernel_rfl) (by kernel_rfl) (fun _ _ _ h => h) hS0 (by rfl) ?_ ?_
        rotate_left
        · intro w9 hSw
          try dsimp only at hSw
          obtain ⟨s0, s1, s2, s3⟩ := hSw
          go_simp
          try with_reducible rfl
        try simp only [Act.put, List.setIfInBounds_toArray, List.set_cons_zero, List.set_cons_succ]
        refine wpAnyE_one (i := 16) rfl (by kernel_rfl) (fun K hK => ?_)
        go_simp
        refine hK.out _ _ (fun h => absurd rfl h) ?_
        clear hK K
        try simp only [Act.put, List.setIfInBounds_toArray, List.set_cons_zero, List.set_cons_succ]
        refine wpAnyE_done (by kernel_rfl) ?_
        have hMn := hset'.out _ _ ((hr.now hBd).set1 s (by simpa using hsn) 0) (grown_set (p := ⟨b, s, none⟩) (grown_of_below hBd) rfl _)
        rw [matF_upd, ← hS3.out] at hMn
        have hBn := (hBr.trans (hBd.mono hBr.size)).setCell (p := ⟨b, s, none⟩) hbB (.int .i64 0)
        go_wp2
        go_roundw
        case rel => exact ⟨k + 1, hlt, by go_num, hMn, hBn⟩
        case measure => simp [intOf]; omega
      · have hS2 := hS'.out
        rw [if_neg htk] at hS2
        have hS3 := Lib.hid hS2
        have hq : (gp[k].tokens == 0) = false := by simpa using htk
        clear hS' hS2 htk
        have hM' : OwnM wr W.heap.size (.slice A1 n c1) (matF n (freeF (gp.take (k + 1))) n) := by rw [hS3.out]; exact hM
        go_wp2
        go_roundw
        case rel => exact ⟨k + 1, hlt, by go_num, hM', hBr⟩
        case measure => simp [intOf]; omega
    · obtain rfl : k = gp.length := by omega
      rw [List.take_length] at hM
      go_wp2
      go_ret
      exact ⟨_, rfl, hM.rebase hWs, hW.trans (hBr.mono hWs)⟩
end Go.Proofs.Ytpkkkigiiaegfaa
