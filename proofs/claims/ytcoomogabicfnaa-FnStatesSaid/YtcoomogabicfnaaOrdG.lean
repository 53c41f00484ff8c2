/-
  The reference's search of dead cycles.
-/
import Derived.Test.YtcoomogabicfnaaTimP
import Derived.Test.YtcoomogabicfnaaDelay
import Derived.Test.YtcoomogabicfnaaInts
import Derived.Test.YtcoomogabicfnaaCopy
import Derived.Test.YtcoomogabicfnaaCore
namespace Go.Proofs.Ytcoomogabicfnaa
open Go.RowKit
set_option linter.unusedVariables false
set_option linter.unusedSimpArgs false

def freeF (l : List Place) : Nat → Nat → Int := l.foldl (fun F p => if p.tokens = 0 then updF F p.dst.toNat p.src.toNat 0 else F) (fun _ _ => bot)
theorem freeF_succ (l : List Place) (k : Nat) (h : k < l.length) : freeF (l.take (k + 1)) = if l[k].tokens = 0 then updF (freeF (l.take k)) l[k].dst.toNat l[k].src.toNat 0 else freeF (l.take k) := by
  unfold freeF
  rw [take_succ_get _ _ h, List.foldl_append]
  rfl
theorem freeF_cases (l : List Place) (d s : Nat) : ∀ k, k ≤ l.length → (freeF (l.take k) d s = 0 ∧ ∃ p ∈ l.take k, p.tokens = 0 ∧ p.dst.toNat = d ∧ p.src.toNat = s) ∨ (freeF (l.take k) d s = bot ∧ ¬ ∃ p ∈ l.take k, p.tokens = 0 ∧ p.dst.toNat = d ∧ p.src.toNat = s) := by
  intro k
  induction k with
  | zero => intro _; right; simp [freeF]
  | succ k ih =>
    intro hk
    have hlt : k < l.length := by omega
    rw [freeF_succ _ _ hlt, take_succ_get _ _ hlt]
    by_cases ht : l[k].tokens = 0
    · rw [if_pos ht]
      unfold updF
      by_cases hc : d = l[k].dst.toNat ∧ s = l[k].src.toNat
      · rw [if_pos hc]
        exact .inl ⟨rfl, l[k], List.mem_append_right _ (List.mem_singleton.2 rfl), ht, hc.1.symm, hc.2.symm⟩
      · rw [if_neg hc]
        rcases ih (by omega) with ⟨h1, p, hp, h2⟩ | ⟨h1, h2⟩
        · exact .inl ⟨h1, p, List.mem_append_left _ hp, h2⟩
        · refine .inr ⟨h1, fun ⟨p, hp, h3⟩ => ?_⟩
          rcases List.mem_append.1 hp with hp | hp
          · exact h2 ⟨p, hp, h3⟩
          · rw [List.mem_singleton.1 hp] at h3
            exact hc ⟨h3.2.1.symm, h3.2.2.symm⟩
    · rw [if_neg ht]
      rcases ih (by omega) with ⟨h1, p, hp, h2⟩ | ⟨h1, h2⟩
      · exact .inl ⟨h1, p, List.mem_append_left _ hp, h2⟩
      · refine .inr ⟨h1, fun ⟨p, hp, h3⟩ => ?_⟩
        rcases List.mem_append.1 hp with hp | hp
        · exact h2 ⟨p, hp, h3⟩
        · rw [List.mem_singleton.1 hp] at h3
          exact ht h3.1
theorem freeF_arc {ge : Int} {gp : List Place} (hok : okGraph ge gp = true) (d s : Nat) : (arcG gp s d ∧ freeF gp d s = 0) ∨ (¬ arcG gp s d ∧ freeF gp d s = bot) := by
  have := freeF_cases gp d s gp.length (Nat.le_refl _)
  rw [List.take_length] at this
  have conv : (∃ p ∈ gp, p.tokens = 0 ∧ p.dst.toNat = d ∧ p.src.toNat = s) ↔ arcG gp s d := by
    constructor
    · rintro ⟨p, hp, h1, h2, h3⟩
      have := okGraph_place hok hp
      exact ⟨p, hp, by omega, by omega, h1⟩
    · rintro ⟨p, hp, h1, h2, h3⟩
      exact ⟨p, hp, h3, by omega, by omega⟩
  rw [conv] at this
  rcases this with h | h
  · exact .inl ⟨h.2, h.1⟩
  · exact .inr ⟨h.2, h.1⟩
def freeM (n : Nat) (gp : List Place) : List (List Int) := matF n (freeF gp) n
theorem freeM_len (n : Nat) (gp : List Place) : (freeM n gp).length = n := matF_len _ _ _
theorem freeM_get (n : Nat) (gp : List Place) (i j : Nat) (h : i < (freeM n gp).length) (h2 : j < ((freeM n gp)[i]).length) : ((freeM n gp)[i])[j] = freeF gp i j := by
  simp [freeM, matF_get]
theorem freeM_row (n : Nat) (gp : List Place) (i : Nat) (h : i < (freeM n gp).length) : ((freeM n gp)[i]).length = n := by simp [freeM, matF_get]
set_option maxHeartbeats 4000000 in
set_option maxRecDepth 100000 in
theorem spec_l12Free (v : Value) (n : Nat) (gp : List Place) (w : World) (h0 : Lst Place.cells 4 w w.heap.size v gp) (hok : okGraph n gp = true) :
    Calls Try.prog 77 #[.agg #[.int .i64 n, v]] w (RetM w (freeM n gp)) := by
  obtain ⟨A, c, rfl⟩ := h0.shape
  obtain ⟨hge1, hge2⟩ := okGraph_ev hok
  have hgl := okGraph_len hok
  have hg' := Lib.hid hok
  clear hok
  go_enter Try.func77, Try.ntmps77
  go_wp2_with fail
  have hW : Below w.heap.size w (w.alloc (.cells #[.int .i64 (n:Int), .slice A gp.length c] 26)) := (Below.refl _ _).alloc (Nat.le_refl _) _; have hb0 : Blk (w.alloc (.cells #[.int .i64 (n:Int), .slice A gp.length c] 26)) w.heap.size 26 #[.int .i64 (n:Int), .slice A gp.length c] := Blk.new _ _ _; replace h0 := h0.now hW; generalize (w.alloc (.cells #[.int .i64 (n:Int), .slice A gp.length c] 26)) = W at *
  have hWs := hW.size
  obtain ⟨k0, k1⟩ := hb0.c2
  go_wp2_with fail
  refine (l02Bottom n n W (by omega) (by omega)).mono ?_
  rintro e w1 ⟨u, rfl, hM, hB⟩
  have hLM : (matF n (fun _ _ => bot) n).length = n := matF_len _ _ _
  obtain ⟨A1, c1, rfl⟩ := hM.shape
  rw [hLM] at hM ⊢
  clear hLM k0 k1
  obtain ⟨k0, k1⟩ := (hb0.now hB).c2
  have l0 := (hb0.now hB).lt
  go_wp2
  go_loopw [4] (fun i wr => ∃ k : Nat, k ≤ gp.length ∧ i = .int .i64 k ∧ OwnM wr W.heap.size (.slice A1 n c1) (matF n (freeF (gp.take k)) n) ∧ Below W.heap.size W wr) (fun i _ => gp.length - (intOf i).toNat)
  case atStart => exact ⟨0, Nat.zero_le _, rfl, by simpa [freeF] using hM, hB⟩
  case round =>
    clear hM k0 k1 l0
    obtain ⟨k, hk, rfl, hM, hBr⟩ := hrel
    have hs := hBr.size
    have lb := ((hb0.now hBr)).lt
    obtain ⟨k0, k1⟩ := (hb0.now hBr).c2
    by_cases hlt : k < gp.length
    · obtain ⟨b0, off, hA0, hbb, d0, d1, d2, d3⟩ := places_at (h0.now hBr) k hlt
      cases hA0
      have hp := okGraph_place hg'.out (List.getElem_mem hlt)
      obtain ⟨s, hs0⟩ := Int.eq_ofNat_of_zero_le hp.1.1
      obtain ⟨d, hd0⟩ := Int.eq_ofNat_of_zero_le hp.2.1.1
      have hsn : s < n := by omega
      have hdn : d < n := by omega
      have hS := freeF_succ gp k hlt
      rw [hs0, hd0, Int.toNat_natCast, Int.toNat_natCast] at hS
      rw [hs0] at d0
      rw [hd0] at d1
      have hS' := Lib.hid hS
      clear hS hs0 hd0
      by_cases htk : gp[k].tokens = 0
      · have hS2 := hS'.out
        rw [if_pos htk] at hS2
        have hS3 := Lib.hid hS2
        have hq : (gp[k].tokens == 0) = true := by simp [htk]
        clear hS' hS2 htk
        have hdl : d < (matF n (freeF (gp.take k)) n).length := by rw [matF_len]; exact hdn
        obtain ⟨g, cu, r, hu, hgb, hgl, hfz, hcd, hr, hne, hset, _⟩ := hM.row d hdl
        rw [matF_len] at hu
        cases hu
        rw [matF_get] at hr
        obtain ⟨b, cr, hv, hbB, hbl0, _⟩ := hr.at_ intCell_len s (by simpa using hsn)
        rw [List.length_map, List.length_range] at hv
        rw [hv] at hcd hr hset
        obtain ⟨_, _, hfr, hce⟩ := own_ints_at hr s (by simpa using hsn)
        have hset' := Lib.hid hset
        clear hset hv hne
        have hBd : Below wr.heap.size wr wr.drew := Below.drew (Below.refl _ wr)
        have i1 : (0 : Int) ≤ (s : Int) := by omega
        have i2 : (s : Int) < (n : Int) := by omega
        have i3 : (0 : Int) ≤ (d : Int) := by omega
        have i4 : (d : Int) < (n : Int) := by omega
        have i5 : (0 : Int) ≤ (k : Int) := by omega
        have i6 : (k : Int) < (gp.length : Int) := by omega
        have fr : ∀ j, wr.drew.frozen? ⟨b, j, none⟩ = false := hfr
        have z0 : wr.drew.cell? ⟨b0, off + k * 4, none⟩ = some (.int .i64 s) := d0
        have z1 : wr.drew.cell? ⟨b0, off + k * 4 + 1, none⟩ = some (.int .i64 d) := d1
        have z2 : wr.drew.cell? ⟨w.heap.size, 1, none⟩ = some (.slice (some ⟨b0, off, none⟩) gp.length c) := k1
        have z3 : wr.drew.cell? ⟨g, d, none⟩ = some (.slice (some ⟨b, 0, none⟩) n cr) := hcd
        go_wp2
        refine wp_region_E (fun w' => w'.cell? ⟨b0, off + k * 4, none⟩ = some (.int .i64 (s : Nat)) ∧ w'.cell? ⟨b0, off + k * 4 + 1, none⟩ = some (.int .i64 (d : Nat)) ∧ w'.cell? ⟨w.heap.size, 1, none⟩ = some (.slice (some ⟨b0, off, none⟩) gp.length c) ∧ w'.cell? ⟨g, d, none⟩ = some (.slice (some ⟨b, 0, none⟩) n cr)) 16 (by kernel_rfl) ?_
        have hS0 : (fun w' : World => w'.cell? ⟨b0, off + k * 4, none⟩ = some (.int .i64 (s : Nat)) ∧ w'.cell? ⟨b0, off + k * 4 + 1, none⟩ = some (.int .i64 (d : Nat)) ∧ w'.cell? ⟨w.heap.size, 1, none⟩ = some (.slice (some ⟨b0, off, none⟩) gp.length c) ∧ w'.cell? ⟨g, d, none⟩ = some (.slice (some ⟨b, 0, none⟩) n cr)) wr.drew := ⟨z0, z1, z2, z3⟩
        refine wpAnyE_take (i := 0) (v := ?_) rfl (by kernel_rfl) (by kernel_rfl) (by kernel_rfl) (by kernel_rfl) (by kernel_rfl) (fun _ _ _ h => h) hS0 (by rfl) ?_ ?_
        rotate_left
        · intro w9 hSw
          try dsimp only at hSw
          obtain ⟨s0, s1, s2, s3⟩ := hSw
          go_simp
          try with_reducible rfl
        try simp only [Act.put, List.setIfInBounds_toArray, List.set_cons_zero, List.set_cons_succ]
        refine wpAnyE_take (i := 1) (v := ?_) rfl (by kernel_rfl) (by kernel_rfl) (by kernel_rfl) (by kernel_rfl) (by kernel_rfl) (fun _ _ _ h => h) hS0 (by rfl) ?_ ?_
        rotate_left
        · intro w9 hSw
          try dsimp only at hSw
          obtain ⟨s0, s1, s2, s3⟩ := hSw
          go_simp
          try with_reducible rfl
        try simp only [Act.put, List.setIfInBounds_toArray, List.set_cons_zero, List.set_cons_succ]
        refine wpAnyE_take (i := 2) (v := ?_) rfl (by kernel_rfl) (by kernel_rfl) (by kernel_rfl) (by kernel_rfl) (by kernel_rfl) (fun _ _ _ h => h) hS0 (by rfl) ?_ ?_
        rotate_left
        · intro w9 hSw
          try dsimp only at hSw
          obtain ⟨s0, s1, s2, s3⟩ := hSw
          go_simp
          try with_reducible rfl
        try simp only [Act.put, List.setIfInBounds_toArray, List.set_cons_zero, List.set_cons_succ]
        refine wpAnyE_take (i := 3) (v := ?_) rfl (by kernel_rfl) (by kernel_rfl) (by kernel_rfl) (by kernel_rfl) (by kernel_rfl) (fun _ _ _ h => h) hS0 (by rfl) ?_ ?_
        rotate_left
        · intro w9 hSw
          try dsimp only at hSw
          obtain ⟨s0, s1, s2, s3⟩ := hSw
          go_simp
          try with_reducible rfl
        try simp only [Act.put, List.setIfInBounds_toArray, List.set_cons_zero, List.set_cons_succ]
        refine wpAnyE_take (i := 4) (v := ?_) rfl (by kernel_rfl) (by kernel_rfl) (by kernel_rfl) (by kernel_rfl) (by kernel_rfl) (fun _ _ _ h => h) hS0 (by rfl) ?_ ?_
        rotate_left
        · intro w9 hSw
          try dsimp only at hSw
          obtain ⟨s0, s1, s2, s3⟩ := hSw
          go_simp
          try with_reducible rfl
        try simp only [Act.put, List.setIfInBounds_toArray, List.set_cons_zero, List.set_cons_succ]
        refine wpAnyE_take (i := 5) (v := ?_) rfl (by kernel_rfl) (by kernel_rfl) (by kernel_rfl) (by kernel_rfl) (by kernel_rfl) (fun _ _ _ h => h) hS0 (by rfl) ?_ ?_
        rotate_left
        · intro w9 hSw
          try dsimp only at hSw
          obtain ⟨s0, s1, s2, s3⟩ := hSw
          go_simp
          try with_reducible rfl
        try simp only [Act.put, List.setIfInBounds_toArray, List.set_cons_zero, List.set_cons_succ]
        refine wpAnyE_take (i := 6) (v := ?_) rfl (by kernel_rfl) (by kernel_rfl) (by kernel_rfl) (by kernel_rfl) (by kernel_rfl) (fun _ _ _ h => h) hS0 (by rfl) ?_ ?_
        rotate_left
        · intro w9 hSw
          try dsimp only at hSw
          obtain ⟨s0, s1, s2, s3⟩ := hSw
          go_simp
          try with_reducible rfl
        try simp only [Act.put, List.setIfInBounds_toArray, List.set_cons_zero, List.set_cons_succ]
        refine wpAnyE_take (i := 7) (v := ?_) rfl (by kernel_rfl) (by kernel_rfl) (by kernel_rfl) (by kernel_rfl) (by kernel_rfl) (fun _ _ _ h => h) hS0 (by rfl) ?_ ?_
        rotate_left
        · intro w9 hSw
          try dsimp only at hSw
          obtain ⟨s0, s1, s2, s3⟩ := hSw
          go_simp
          try with_reducible rfl
        try simp only [Act.put, List.setIfInBounds_toArray, List.set_cons_zero, List.set_cons_succ]
        refine wpAnyE_take (i := 8) (v := ?_) rfl (by kernel_rfl) (by kernel_rfl) (by kernel_rfl) (by kernel_rfl) (by kernel_rfl) (fun _ _ _ h => h) hS0 (by rfl) ?_ ?_
        rotate_left
        · intro w9 hSw
          try dsimp only at hSw
          obtain ⟨s0, s1, s2, s3⟩ := hSw
          go_simp
          try with_reducible rfl
        try simp only [Act.put, List.setIfInBounds_toArray, List.set_cons_zero, List.set_cons_succ]
        refine wpAnyE_take (i := 9) (v := ?_) rfl (by kernel_rfl) (by kernel_rfl) (by kernel_rfl) (by kernel_rfl) (by kernel_rfl) (fun _ _ _ h => h) hS0 (by rfl) ?_ ?_
        rotate_left
        · intro w9 hSw
          try dsimp only at hSw
          obtain ⟨s0, s1, s2, s3⟩ := hSw
          go_simp
          try with_reducible rfl
        try simp only [Act.put, List.setIfInBounds_toArray, List.set_cons_zero, List.set_cons_succ]
        refine wpAnyE_take (i := 10) (v := ?_) rfl (by kernel_rfl) (by kernel_rfl) (by kernel_rfl) (by kernel_rfl) (by kernel_rfl) (fun _ _ _ h => h) hS0 (by rfl) ?_ ?_
        rotate_left
        · intro w9 hSw
          try dsimp only at hSw
          obtain ⟨s0, s1, s2, s3⟩ := hSw
          go_simp
          try with_reducible rfl
        try simp only [Act.put, List.setIfInBounds_toArray, List.set_cons_zero, List.set_cons_succ]
        refine wpAnyE_take (i := 11) (v := ?_) rfl (by kernel_rfl) (by kernel_rfl) (by kernel_rfl) (by kernel_rfl) (by kernel_rfl) (fun _ _ _ h => h) hS0 (by rfl) ?_ ?_
        rotate_left
        · intro w9 hSw
          try dsimp only at hSw
          obtain ⟨s0, s1, s2, s3⟩ := hSw
          go_simp
          try with_reducible rfl
        try simp only [Act.put, List.setIfInBounds_toArray, List.set_cons_zero, List.set_cons_succ]
        refine wpAnyE_take (i := 12) (v := ?_) rfl (by kernel_rfl) (by kernel_rfl) (by kernel_rfl) (by kernel_rfl) (by kernel_rfl) (fun _ _ _ h => h) hS0 (by rfl) ?_ ?_
        rotate_left
        · intro w9 hSw
          try dsimp only at hSw
          obtain ⟨s0, s1, s2, s3⟩ := hSw
          go_simp
          try with_reducible rfl
        try simp only [Act.put, List.setIfInBounds_toArray, List.set_cons_zero, List.set_cons_succ]
        refine wpAnyE_take (i := 13) (v := ?_) rfl (by kernel_rfl) (by kernel_rfl) (by kernel_rfl) (by kernel_rfl) (by kernel_rfl) (fun _ _ _ h => h) hS0 (by rfl) ?_ ?_
        rotate_left
        · intro w9 hSw
          try dsimp only at hSw
          obtain ⟨s0, s1, s2, s3⟩ := hSw
          go_simp
          try with_reducible rfl
        try simp only [Act.put, List.setIfInBounds_toArray, List.set_cons_zero, List.set_cons_succ]
        refine wpAnyE_take (i := 14) (v := ?_) rfl (by kernel_rfl) (by kernel_rfl) (by kernel_rfl) (by kernel_rfl) (by kernel_rfl) (fun _ _ _ h => h) hS0 (by rfl) ?_ ?_
        rotate_left
        · intro w9 hSw
          try dsimp only at hSw
          obtain ⟨s0, s1, s2, s3⟩ := hSw
          go_simp
          try with_reducible rfl
        try simp only [Act.put, List.setIfInBounds_toArray, List.set_cons_zero, List.set_cons_succ]
        refine wpAnyE_take (i := 15) (v := ?_) rfl (by kernel_rfl) (by kernel_rfl) (by kernel_rfl) (by kernel_rfl) (by kernel_rfl) (fun _ _ _ h => h) hS0 (by rfl) ?_ ?_
        rotate_left
        · intro w9 hSw
          try dsimp only at hSw
          obtain ⟨s0, s1, s2, s3⟩ := hSw
          go_simp
          try with_reducible rfl
        try simp only [Act.put, List.setIfInBounds_toArray, List.set_cons_zero, List.set_cons_succ]
        refine wpAnyE_one (i := 16) rfl (by kernel_rfl) (fun K hK => ?_)
        go_simp
        refine hK.out _ _ (fun h => absurd rfl h) ?_
        clear hK K
        try simp only [Act.put, List.setIfInBounds_toArray, List.set_cons_zero, List.set_cons_succ]
        refine wpAnyE_done (by kernel_rfl) ?_
        have hMn := hset'.out _ _ ((hr.now hBd).set1 s (by simpa using hsn) 0) (grown_set (p := ⟨b, s, none⟩) (grown_of_below hBd) rfl _)
        rw [matF_upd, ← hS3.out] at hMn
        have hBn := (hBr.trans (hBd.mono hBr.size)).setCell (p := ⟨b, s, none⟩) hbB (.int .i64 0)
        go_wp2
        go_roundw
        case rel => exact ⟨k + 1, hlt, by go_num, hMn, hBn⟩
        case measure => simp [intOf]; omega
      · have hS2 := hS'.out
        rw [if_neg htk] at hS2
        have hS3 := Lib.hid hS2
        have hq : (gp[k].tokens == 0) = false := by simpa using htk
        clear hS' hS2 htk
        have hM' : OwnM wr W.heap.size (.slice A1 n c1) (matF n (freeF (gp.take (k + 1))) n) := by rw [hS3.out]; exact hM
        go_wp2
        go_roundw
        case rel => exact ⟨k + 1, hlt, by go_num, hM', hBr⟩
        case measure => simp [intOf]; omega
    · obtain rfl : k = gp.length := by omega
      rw [List.take_length] at hM
      go_wp2
      go_ret
      exact ⟨_, rfl, hM.rebase hWs, hW.trans (hBr.mono hWs)⟩
end Go.Proofs.Ytcoomogabicfnaa
namespace Go.Proofs.Ytcoomogabicfnaa
open Go.RowKit
set_option linter.unusedVariables false
set_option linter.unusedSimpArgs false

def ints (l : List Nat) : List Int := l.map fun x : Nat => (x : Int)
theorem ints_len (l : List Nat) : (ints l).length = l.length := by simp [ints]
theorem ints_get (l : List Nat) (i : Nat) (h : i < (ints l).length) (h2 : i < l.length) : (ints l)[i] = (l[i] : Int) := by simp [ints]
theorem ints_mem (l : List Nat) (x : Nat) : (x : Int) ∈ ints l ↔ x ∈ l := by
  unfold ints
  rw [List.mem_map]
  constructor
  · rintro ⟨y, hy, he⟩
    have : y = x := by omega
    rw [← this]; exact hy
  · intro h; exact ⟨x, h, rfl⟩
theorem ints_snoc (l : List Nat) (x : Nat) : ints l ++ [(x : Int)] = ints (l ++ [x]) := by simp [ints]
theorem arc_lt {n : Nat} {gp : List Place} (hok : okGraph n gp = true) {u v : Nat} (h : arcG gp u v) : u < n ∧ v < n := by
  obtain ⟨p, hp, h1, h2, _⟩ := h
  have := okGraph_place hok hp
  omega
set_option maxHeartbeats 8000000 in
set_option maxRecDepth 100000 in
theorem spec_l03Grow (v : Value) (n : Nat) (gp : List Place) (hok : Hid (okGraph n gp = true)) (hn : n ≤ 10) : ∀ (f : Nat) (path : List Nat) (pv : Value) (w : World), n ≤ path.length + f → LstM w w.heap.size v (freeM n gp) → Lst intCell 1 w w.heap.size pv (ints path) → path ≠ [] → Good (arcG gp) n path →
    Calls Try.prog 97 #[v, pv, .int .i64 0, .int .i64 (-1)] w fun r w' => ∃ v' out, r = .returned v' ∧ Lst intCell 1 w' w'.heap.size v' (ints out) ∧ Hid (Found gp n path out) ∧ Below w.heap.size w w' := by
  intro f
  induction f using Nat.strongRecOn with
  | ind f ih =>
  intro path pv w hf h0 h1 hne hgood
  obtain ⟨A, c, rfl⟩ := h0.shape
  rw [freeM_len] at h0 ⊢
  simp only [freeM_len] at ih
  have hih := Lib.hid ih
  clear ih
  obtain ⟨C, d, rfl⟩ := h1.shape
  rw [ints_len] at h1 ⊢
  have hpos := List.length_pos_iff.2 hne
  have hplen := nodup_len n path hgood.1 hgood.2.1
  obtain ⟨b1, o1, hC1, _, e0⟩ := ints_at h1 0 (by rw [ints_len]; exact hpos)
  obtain ⟨b2, o2, hC2, _, e1⟩ := ints_at h1 (path.length - 1) (by rw [ints_len]; omega)
  cases hC1
  cases hC2
  rw [ints_get _ _ _ hpos] at e0
  rw [ints_get _ _ _ (show path.length - 1 < path.length by omega)] at e1
  have hfirst : path.headD 0 = path[0] := head_get hne
  have hlast := last_get hne
  have hf1 : path[0] < n := hgood.2.1 _ (List.getElem_mem hpos)
  have hl1 : path[path.length - 1]'(by omega) < n := hgood.2.1 _ (List.getElem_mem _)
  obtain ⟨fi, hfi⟩ : ∃ fi, path[0] = fi := ⟨_, rfl⟩
  obtain ⟨la, hla⟩ : ∃ la, path[path.length - 1]'(by omega) = la := ⟨_, rfl⟩
  rw [hfi] at e0 hf1 hfirst
  rw [hla] at e1 hl1 hlast
  clear hfi hla
  have hbar := Lib.hid (fun hc h => barren_of (gp := gp) (n := n) hne hc h)
  rw [hfirst, hlast] at hbar
  have hcyc := Lib.hid (fun hc => cyc_of_good (gp := gp) hne hgood hc)
  have hsh : Hid (Shuts gp path ↔ arcG gp la fi) := by show _ ↔ _; unfold Shuts; rw [hfirst, hlast]
  have hsn := Lib.hid (fun u h1 h2 h3 h4 => Good.snoc (u := u) hne hgood h1 h2 h3 h4)
  rw [hfirst, hlast] at hsn
  have hnd := Lib.hid hgood.1
  have hgm := Lib.hid hgood.2.1
  clear hgood hfirst hlast
  obtain ⟨P, hP⟩ : ∃ P : Nat, path.length - 1 = P := ⟨_, rfl⟩
  rw [hP] at e1
  have p1 : (0 : Int) ≤ (P : Int) := by omega
  have p2 : (P : Int) < (path.length : Int) := by omega
  have p3 : (0 : Int) < (path.length : Int) := by omega
  have p5 : IntKind.i64.wrap ((path.length : Int) - 1) = (P : Int) := (IntWalk.i64_in _ (by omega)).trans (by omega)
  -- the row of the first node
  have hrl := freeM_len n gp
  obtain ⟨b, off, cM, r, hu, hbB, r0, hr⟩ := h0.row fi (by rw [freeM_len]; exact hf1)
  rw [freeM_len] at hu
  cases hu
  obtain ⟨R, rc, hv⟩ := hr.shape
  rw [freeM_row] at hv
  rw [hv] at hr r0
  obtain ⟨rb, ro, hR, _, q0⟩ := ints_at hr la (by rw [freeM_row]; exact hl1)
  cases hR
  rw [freeM_get _ _ _ _ _ (by rw [freeM_row]; exact hl1)] at q0
  have hfa := freeF_arc hok.out fi la
  clear hr hv hrl
  have i1 : (0 : Int) ≤ (fi : Int) := by omega
  have i2 : (fi : Int) < (n : Int) := by omega
  have i3 : (0 : Int) ≤ (la : Int) := by omega
  have i4 : (la : Int) < (n : Int) := by omega
  have z0 : w.drew.cell? ⟨b1, o1, none⟩ = some (.int .i64 fi) := e0
  have z1 : w.drew.cell? ⟨b1, o1 + P, none⟩ = some (.int .i64 la) := e1
  go_enter Try.func97, Try.ntmps97
  go_wp2
  refine wp_region_held_drew (S := fun w' => w'.cell? ⟨b1, o1, none⟩ = some (.int .i64 (fi : Nat)) ∧ w'.cell? ⟨b1, o1 + P, none⟩ = some (.int .i64 (la : Nat))) (by kernel_rfl) ⟨z0, z1⟩ (fun hH => ?_)
  refine tkH 0 (v := ?_) rfl (fun _ _ _ h => h) (Or.inl ⟨by rfl, ?_⟩) hH ?_
  rotate_left
  · intro w9 hSw
    try dsimp only at hSw
    obtain ⟨s0, s1⟩ := hSw
    go_simp
    try with_reducible rfl
  try simp only [Act.put, List.setIfInBounds_toArray, List.set_cons_zero, List.set_cons_succ]
  refine tkH 1 (v := ?_) rfl (fun _ _ _ h => h) (Or.inl ⟨by rfl, ?_⟩) hH ?_
  rotate_left
  · intro w9 hSw
    try dsimp only at hSw
    obtain ⟨s0, s1⟩ := hSw
    go_simp
    try with_reducible rfl
  try simp only [Act.put, List.setIfInBounds_toArray, List.set_cons_zero, List.set_cons_succ]
  refine tkH 2 (v := ?_) rfl (fun _ _ _ h => h) (Or.inl ⟨by rfl, ?_⟩) hH ?_
  rotate_left
  · intro w9 hSw
    try dsimp only at hSw
    obtain ⟨s0, s1⟩ := hSw
    go_simp
    try with_reducible rfl
  try simp only [Act.put, List.setIfInBounds_toArray, List.set_cons_zero, List.set_cons_succ]
  refine tkH 3 (v := ?_) rfl (fun _ _ _ h => h) (Or.inl ⟨by rfl, ?_⟩) hH ?_
  rotate_left
  · intro w9 hSw
    try dsimp only at hSw
    obtain ⟨s0, s1⟩ := hSw
    go_simp
    try with_reducible rfl
  try simp only [Act.put, List.setIfInBounds_toArray, List.set_cons_zero, List.set_cons_succ]
  refine tkH 4 (v := ?_) rfl (fun _ _ _ h => h) (Or.inl ⟨by rfl, ?_⟩) hH ?_
  rotate_left
  · intro w9 hSw
    try dsimp only at hSw
    obtain ⟨s0, s1⟩ := hSw
    go_simp
    try with_reducible rfl
  try simp only [Act.put, List.setIfInBounds_toArray, List.set_cons_zero, List.set_cons_succ]
  refine tkH 5 (v := ?_) rfl (fun _ _ _ h => h) (Or.inl ⟨by rfl, ?_⟩) hH ?_
  rotate_left
  · intro w9 hSw
    try dsimp only at hSw
    obtain ⟨s0, s1⟩ := hSw
    go_simp
    try with_reducible rfl
  try simp only [Act.put, List.setIfInBounds_toArray, List.set_cons_zero, List.set_cons_succ]
  refine tkH 6 (v := ?_) rfl (fun _ _ _ h => h) (Or.inl ⟨by rfl, ?_⟩) hH ?_
  rotate_left
  · intro w9 hSw
    try dsimp only at hSw
    obtain ⟨s0, s1⟩ := hSw
    go_simp
    try with_reducible rfl
  try simp only [Act.put, List.setIfInBounds_toArray, List.set_cons_zero, List.set_cons_succ]
  refine tkH 7 (v := ?_) rfl (fun _ _ _ h => h) (Or.inl ⟨by rfl, ?_⟩) hH ?_
  rotate_left
  · intro w9 hSw
    try dsimp only at hSw
    obtain ⟨s0, s1⟩ := hSw
    go_simp
    try with_reducible rfl
  try simp only [Act.put, List.setIfInBounds_toArray, List.set_cons_zero, List.set_cons_succ]
  refine tkH 8 (v := ?_) rfl (fun _ _ _ h => h) (Or.inl ⟨by rfl, ?_⟩) hH ?_
  rotate_left
  · intro w9 hSw
    try dsimp only at hSw
    obtain ⟨s0, s1⟩ := hSw
    go_simp
    try with_reducible rfl
  try simp only [Act.put, List.setIfInBounds_toArray, List.set_cons_zero, List.set_cons_succ]
  refine tkH 9 (v := ?_) rfl (fun _ _ _ h => h) (Or.inl ⟨by rfl, ?_⟩) hH ?_
  rotate_left
  · intro w9 hSw
    try dsimp only at hSw
    obtain ⟨s0, s1⟩ := hSw
    go_simp
    try with_reducible rfl
  try simp only [Act.put, List.setIfInBounds_toArray, List.set_cons_zero, List.set_cons_succ]
  refine tkH 10 (v := ?_) rfl (fun _ _ _ h => h) (Or.inl ⟨by rfl, ?_⟩) hH ?_
  rotate_left
  · intro w9 hSw
    try dsimp only at hSw
    obtain ⟨s0, s1⟩ := hSw
    go_simp
    try with_reducible rfl
  try simp only [Act.put, List.setIfInBounds_toArray, List.set_cons_zero, List.set_cons_succ]
  refine wpAnyH_done (by kernel_rfl) ?_ _
  have hBd : Below w.heap.size w w.drew := Below.drew (Below.refl _ w)
  have r0' := cell_keep r0 hBd
  have q0' := cell_keep q0 hBd
  replace h0 := h0.now hBd
  replace h1 := h1.now hBd
  clear z0 z1 e0 e1 r0 q0
  rcases hfa with ⟨ha, hx⟩ | ⟨ha, hx⟩
  · rw [hx] at q0'
    have hF : Hid (Found gp n path path) := ⟨fun h => absurd h hne, fun _ => hcyc.out (hsh.out.2 ha)⟩
    clear hx ha
    go_wp2
    go_ret
    exact ⟨_, path, rfl, by simpa [ints_len] using h1, hF, hBd⟩
  · rw [hx, show bot = -1000000000000000 from rfl] at q0'
    have hna : Hid (¬ Shuts gp path) := fun h => ha (hsh.out.1 h)
    clear hx ha
    generalize w.drew = W at *
    go_wp2
    go_loopw [11, 12] (fun i _ wr => ∃ u : Nat, fi < u ∧ u ≤ n ∧ i = .int .i64 u ∧ Hid (∀ x, fi < x → x < u → arcG gp la x → ¬ x ∈ path → Barren gp n (path ++ [x])) ∧ Below W.heap.size W wr) (fun i _ _ => n - (intOf i).toNat)
    case atStart => exact ⟨fi + 1, by omega, by omega, by go_num, fun x q1 q2 => absurd q2 (by omega), Below.refl _ _⟩
    case round =>
      clear r0' q0'
      obtain ⟨u, hu1, hu2, rfl, hN, hB⟩ := hrel
      have hs := hB.size
      by_cases hlt : u < n
      · obtain ⟨b3, off3, cM3, r3, hu3, hb3, r0, hr⟩ := (h0.now hB).row u (by rw [freeM_len]; exact hlt)
        rw [freeM_len] at hu3
        cases hu3
        obtain ⟨R, rc3, hv⟩ := hr.shape
        rw [freeM_row] at hv
        rw [hv] at hr r0
        obtain ⟨rb3, ro3, hR, _, q0⟩ := ints_at hr la (by rw [freeM_row]; exact hl1)
        cases hR
        rw [freeM_get _ _ _ _ _ (by rw [freeM_row]; exact hl1)] at q0
        have hfa := freeF_arc hok.out u la
        clear hr hv
        have j1 : (0 : Int) ≤ (u : Int) := by omega
        have j2 : (u : Int) < (n : Int) := by omega
        rcases hfa with ⟨ha, hx⟩ | ⟨ha, hx⟩
        · rw [hx] at q0
          have haH := Lib.hid ha
          clear hx ha
          by_cases hin : u ∈ path
          · have hq : Hid (hasI (ints path) (u : Int) = true) := by show _ = _; rw [hasI_iff, ints_mem]; exact hin
            have hN' : Hid (∀ x, fi < x → x < u + 1 → arcG gp la x → ¬ x ∈ path → Barren gp n (path ++ [x])) := by
              intro x q1 q2 q3 q4
              by_cases e : x = u
              · subst e; exact absurd hin q4
              · exact hN.out x q1 (by omega) q3 q4
            clear hin
            go_wp2_with (go_at_call 102; refine (spec_l01Has _ _ _ _ (h1.now hB)).mono ?_; rintro e w5 ⟨rfl, rfl⟩; rw [hq.out])
            go_roundw
            case rel => exact ⟨u + 1, by omega, hlt, by go_num, hN', hB⟩
            case measure => simp [intOf]; omega
          · have hq : Hid (hasI (ints path) (u : Int) = false) := by
              show _ = _
              rw [← Bool.not_eq_true, hasI_iff, ints_mem]
              exact hin
            have hg2 := Lib.hid (hsn.out u hu1 hlt hin haH.out)
            have hf0 : 0 < f := by
              have := nodup_len n (path ++ [u]) hg2.out.1 hg2.out.2.1
              simp at this
              omega
            clear hin
            go_wp2_with (go_at_call 102; refine (spec_l01Has _ _ _ _ (h1.now hB)).mono ?_; rintro e w5 ⟨rfl, rfl⟩; rw [hq.out])
            have hBd2 : Below wr.heap.size wr wr.drew := Below.drew (Below.refl _ wr)
            have g0 := (h0.now hB).now hBd2
            have g1 := (h1.now hB).now hBd2
            have z0 := cell_keep r0 hBd2
            have z1 := cell_keep q0 hBd2
            have hlen : (ints path).length + [(u : Int)].length ≤ 1099511627776 := by rw [ints_len]; simp; omega
            have hlen2 : (ints path).length ≤ 1048576 := by rw [ints_len]; omega
            have hLn := Lib.hid (ints_len path)
            have hLL : Hid ((ints path ++ [(u : Int)]).length = path.length + 1) := by show _ = _; simp [ints_len]
            have hpl : path.length ≤ 10 := by omega
            have hsd : wr.drew.heap.size = wr.heap.size := rfl
            clear r0 q0
            refine wp_region_held_drew (S := fun w' => w'.cell? ⟨b, off + u, none⟩ = some (.slice (some ⟨rb3, ro3, none⟩) n rc3) ∧ w'.cell? ⟨rb3, ro3 + la, none⟩ = some (.int .i64 0)) (by kernel_rfl) ⟨z0, z1⟩ (fun hH => ?_)
            refine tkH 0 (v := ?_) rfl (fun _ _ _ h => h) (Or.inl ⟨by rfl, ?_⟩) hH ?_
            rotate_left
            · intro w9 hSw
              try dsimp only at hSw
              obtain ⟨s0, s1⟩ := hSw
              go_simp
              try with_reducible rfl
            try simp only [Act.put, List.setIfInBounds_toArray, List.set_cons_zero, List.set_cons_succ]
            refine tkH 1 (v := ?_) rfl (fun _ _ _ h => h) (Or.inl ⟨by rfl, ?_⟩) hH ?_
            rotate_left
            · intro w9 hSw
              try dsimp only at hSw
              obtain ⟨s0, s1⟩ := hSw
              go_simp
              try with_reducible rfl
            try simp only [Act.put, List.setIfInBounds_toArray, List.set_cons_zero, List.set_cons_succ]
            refine tkH 3 (v := ?_) rfl (fun _ _ _ h => h) (Or.inl ⟨by rfl, ?_⟩) hH ?_
            rotate_left
            · intro w9 hSw
              try dsimp only at hSw
              obtain ⟨s0, s1⟩ := hSw
              go_simp
              try with_reducible rfl
            try simp only [Act.put, List.setIfInBounds_toArray, List.set_cons_zero, List.set_cons_succ]
            refine tkH 6 (v := ?_) rfl (fun _ _ _ h => h) (Or.inl ⟨by rfl, ?_⟩) hH ?_
            rotate_left
            · intro w9 hSw
              try dsimp only at hSw
              obtain ⟨s0, s1⟩ := hSw
              go_simp
              try with_reducible rfl
            try simp only [Act.put, List.setIfInBounds_toArray, List.set_cons_zero, List.set_cons_succ]
            refine tkH 7 (v := ?_) rfl (fun _ _ _ h => h) (Or.inl ⟨by rfl, ?_⟩) hH ?_
            rotate_left
            · intro w9 hSw
              try dsimp only at hSw
              obtain ⟨s0, s1⟩ := hSw
              go_simp
              try with_reducible rfl
            try simp only [Act.put, List.setIfInBounds_toArray, List.set_cons_zero, List.set_cons_succ]
            refine tkH 8 (v := ?_) rfl (fun _ _ _ h => h) (Or.inl ⟨by rfl, ?_⟩) hH ?_
            rotate_left
            · intro w9 hSw
              try dsimp only at hSw
              obtain ⟨s0, s1⟩ := hSw
              go_simp
              try with_reducible rfl
            try simp only [Act.put, List.setIfInBounds_toArray, List.set_cons_zero, List.set_cons_succ]
            refine tkH 9 (v := ?_) rfl (fun _ _ _ h => h) (Or.inl ⟨by rfl, ?_⟩) hH ?_
            rotate_left
            · intro w9 hSw
              try dsimp only at hSw
              obtain ⟨s0, s1⟩ := hSw
              go_simp
              try with_reducible rfl
            try simp only [Act.put, List.setIfInBounds_toArray, List.set_cons_zero, List.set_cons_succ]
            refine tkH 10 (v := ?_) rfl (fun _ _ _ h => h) (Or.inl ⟨by rfl, ?_⟩) hH ?_
            rotate_left
            · intro w9 hSw
              try dsimp only at hSw
              obtain ⟨s0, s1⟩ := hSw
              go_simp
              try with_reducible rfl
            try simp only [Act.put, List.setIfInBounds_toArray, List.set_cons_zero, List.set_cons_succ]
            refine tkH 11 (v := ?_) rfl (fun _ _ _ h => h) (Or.inl ⟨by rfl, ?_⟩) hH ?_
            rotate_left
            · intro w9 hSw
              try dsimp only at hSw
              obtain ⟨s0, s1⟩ := hSw
              go_simp
              try with_reducible rfl
            try simp only [Act.put, List.setIfInBounds_toArray, List.set_cons_zero, List.set_cons_succ]
            refine tkH 12 (v := ?_) rfl (fun _ _ _ h => h) (Or.inl ⟨by rfl, ?_⟩) hH ?_
            rotate_left
            · intro w9 hSw
              try dsimp only at hSw
              obtain ⟨s0, s1⟩ := hSw
              go_simp
              try with_reducible rfl
            try simp only [Act.put, List.setIfInBounds_toArray, List.set_cons_zero, List.set_cons_succ]
            refine tkH 13 (v := ?_) rfl (fun _ _ _ h => h) (Or.inl ⟨by rfl, ?_⟩) hH ?_
            rotate_left
            · intro w9 hSw
              try dsimp only at hSw
              obtain ⟨s0, s1⟩ := hSw
              go_simp
              try with_reducible rfl
            try simp only [Act.put, List.setIfInBounds_toArray, List.set_cons_zero, List.set_cons_succ]
            refine tkH 14 (v := ?_) rfl (fun _ _ _ h => h) (Or.inl ⟨by rfl, ?_⟩) hH ?_
            rotate_left
            · intro w9 hSw
              try dsimp only at hSw
              obtain ⟨s0, s1⟩ := hSw
              go_simp
              try with_reducible rfl
            try simp only [Act.put, List.setIfInBounds_toArray, List.set_cons_zero, List.set_cons_succ]
            refine tkH 15 (v := ?_) rfl (fun _ _ _ h => h) (Or.inl ⟨by rfl, ?_⟩) hH ?_
            rotate_left
            · intro w9 hSw
              try dsimp only at hSw
              obtain ⟨s0, s1⟩ := hSw
              go_simp
              try with_reducible rfl
            try simp only [Act.put, List.setIfInBounds_toArray, List.set_cons_zero, List.set_cons_succ]
            refine wpAnyH_ready (rs := [2, 4]) (by kernel_rfl) (by simp) ?_
            refine AllReadyH.cons rfl (fun K hK => ?_) (AllReadyH.cons rfl (fun K hK => ?_) AllReadyH.nil)
            · go_simp
              go_at_call 103
              refine (spec_l01Own _ _ _ g1 hlen2).mono ?_
              rintro e5 w5 ⟨x5, rfl, hO5, hB5⟩
              obtain ⟨X, cx, rfl⟩ := own_shape_n hO5 hLn.out
              have z0a := cell_keep (w := wr.drew) z0 hB5
              have z1a := cell_keep (w := wr.drew) z1 hB5
              refine hK.out _ _ ⟨z0a, z1a⟩ (fun hH => ?_)
              clear hK K
              try simp only [Act.put, List.setIfInBounds_toArray, List.set_cons_zero, List.set_cons_succ]
              have hZ : Below w5.heap.size w5 (w5.alloc (.cells #[.int .i64 (u : Nat)] 2)) := (Below.refl _ _).alloc (Nat.le_refl _) _
              have z0b := cell_keep z0a hZ
              have z1b := cell_keep z1a hZ
              have hLst := lst_new1 intCell 1 intCell_len w5 2 (u : Int) _ rfl _ rfl
              have hbs := Nat.le_trans hB5.size hZ.size
              refine wpAnyH_ready (rs := [4]) (by kernel_rfl) (by simp) ?_
              refine AllReadyH.cons rfl (fun K hK => ?_) AllReadyH.nil
              go_simp
              refine hK.out _ _ ⟨z0b, z1b⟩ (fun hH => ?_)
              clear hK K
              try simp only [Act.put, List.setIfInBounds_toArray, List.set_cons_zero, List.set_cons_succ]
              refine wpAnyH_ready (rs := [5]) (by kernel_rfl) (by simp) ?_
              refine AllReadyH.cons rfl (fun K hK => ?_) AllReadyH.nil
              refine step_append_lst rfl _ _ 50 rfl intCell 1 intCell_one (by omega) (wr.drew.heap.size) 2 _ 8 Try.underlying50 info_i64 rfl _ (ints path) rfl (hO5.now hZ) _ _ _ _ [(u : Int)] rfl hLst hlen (by omega) hbs ?_
              intro v1 wz hO1 hG hD1
              obtain ⟨V1, cv1, rfl⟩ := own_shape_n hO1 hLL.out
              have hBz : Below wr.drew.heap.size wr.drew wz := below_app (hB5.trans (hZ.mono hB5.size)) hbs hG (hO5.now hZ) (Nat.le_refl _)
              have z0c := cell_keep (w := wr.drew) z0 hBz
              have z1c := cell_keep (w := wr.drew) z1 hBz
              refine hK.out _ _ ⟨z0c, z1c⟩ (fun hH => ?_)
              clear hK K
              try simp only [Act.put, List.setIfInBounds_toArray, List.set_cons_zero, List.set_cons_succ]
              refine wpAnyH_ready (rs := [16]) (by kernel_rfl) (by simp) ?_
              refine AllReadyH.cons rfl (fun K hK => ?_) AllReadyH.nil
              go_simp
              go_at_call 97
              rw [ints_snoc] at hO1
              refine (hih.out (f - 1) (by omega) (path ++ [u]) _ wz (by simp; omega) (g0.now hBz) hO1.lst (by simp) hg2.out).mono ?_
              rintro e7 w7 ⟨v7, out, rfl, hL7, hF7, hB7⟩
              have z0d := cell_keep (w := wr.drew) z0 (hBz.trans (hB7.mono hBz.size))
              have z1d := cell_keep (w := wr.drew) z1 (hBz.trans (hB7.mono hBz.size))
              refine hK.out _ _ ⟨z0d, z1d⟩ (fun hH => ?_)
              clear hK K
              try simp only [Act.put, List.setIfInBounds_toArray, List.set_cons_zero, List.set_cons_succ]
              refine tkH 17 (v := ?_) rfl (fun _ _ _ h => h) (Or.inl ⟨by rfl, ?_⟩) hH ?_
              rotate_left
              · intro w9 hSw
                try dsimp only at hSw
                obtain ⟨s0, s1⟩ := hSw
                go_simp
                try with_reducible rfl
              try simp only [Act.put, List.setIfInBounds_toArray, List.set_cons_zero, List.set_cons_succ]
              refine wpAnyH_done (by kernel_rfl) ?_ _
              have hBt := hB.trans ((hBd2.trans (hBz.trans (hB7.mono hBz.size))).mono hs)
              obtain ⟨V7, c7, rfl⟩ := hL7.shape
              rw [ints_len] at hL7 ⊢
              by_cases ho : out = []
              · have q9 : decide ((0 : Int) < (out.length : Int)) = false := by rw [ho]; rfl
                have q8 : out.length = 0 := by rw [ho]; rfl
                have q7 : ¬ 0 < out.length := by omega
                have hN' : Hid (∀ x, fi < x → x < u + 1 → arcG gp la x → ¬ x ∈ path → Barren gp n (path ++ [x])) := by
                  intro x q1 q2 q3 q4
                  by_cases e : x = u
                  · subst e; exact hF7.out.1 ho
                  · exact hN.out x q1 (by omega) q3 q4
                clear ho
                go_wp2
                go_roundw
                all_goals (first | exact ⟨⟨u + 1, by omega, hlt, by go_num, hN', hBt⟩, by simp [intOf]; omega⟩ | exact ⟨u + 1, by omega, hlt, by go_num, hN', hBt⟩ | (simp [intOf]; omega) | rfl)
              · have q9 : decide ((0 : Int) < (out.length : Int)) = true := by have := List.length_pos_iff.2 ho; simp; omega
                have q7 : 0 < out.length := List.length_pos_iff.2 ho
                have hF : Hid (Found gp n path out) := ⟨fun h => absurd h ho, hF7.out.2⟩
                clear ho
                go_wp2
                go_ret
                exact ⟨_, out, rfl, hL7, hF, hBd.trans (hBt.mono hBd.size)⟩
            · have hZ : Below wr.drew.heap.size wr.drew (wr.drew.alloc (.cells #[.int .i64 (u : Nat)] 2)) := (Below.refl _ _).alloc (Nat.le_refl _) _
              have z0b := cell_keep (w := wr.drew) z0 hZ
              have z1b := cell_keep (w := wr.drew) z1 hZ
              go_simp
              refine hK.out _ _ ⟨z0b, z1b⟩ (fun hH => ?_)
              clear hK K
              try simp only [Act.put, List.setIfInBounds_toArray, List.set_cons_zero, List.set_cons_succ]
              refine wpAnyH_ready (rs := [2]) (by kernel_rfl) (by simp) ?_
              refine AllReadyH.cons rfl (fun K hK => ?_) AllReadyH.nil
              go_simp
              go_at_call 103
              refine (spec_l01Own _ _ _ (g1.now hZ) hlen2).mono ?_
              rintro e5 w5 ⟨x5, rfl, hO5, hB5⟩
              obtain ⟨X, cx, rfl⟩ := own_shape_n hO5 hLn.out
              have z0a := cell_keep z0b hB5
              have z1a := cell_keep z1b hB5
              have hLst0 : Lst intCell 1 (wr.drew.alloc (.cells #[.int .i64 (u : Nat)] 2)) (wr.drew.alloc (.cells #[.int .i64 (u : Nat)] 2)).heap.size (.slice (some ⟨wr.drew.heap.size, 0, none⟩) 1 1) [(u : Int)] := (lst_new1 intCell 1 intCell_len wr.drew 2 (u : Int) _ rfl _ rfl).more (by simp)
              have hLst := hLst0.now hB5
              have hbs := hB5.size
              refine hK.out _ _ ⟨z0a, z1a⟩ (fun hH => ?_)
              clear hK K
              try simp only [Act.put, List.setIfInBounds_toArray, List.set_cons_zero, List.set_cons_succ]
              refine wpAnyH_ready (rs := [5]) (by kernel_rfl) (by simp) ?_
              refine AllReadyH.cons rfl (fun K hK => ?_) AllReadyH.nil
              refine step_append_lst rfl _ _ 50 rfl intCell 1 intCell_one (by omega) ((wr.drew.alloc (.cells #[.int .i64 (u : Nat)] 2)).heap.size) 2 _ 8 Try.underlying50 info_i64 rfl _ (ints path) rfl hO5 _ _ _ _ [(u : Int)] rfl hLst hlen (by omega) hbs ?_
              intro v1 wz hO1 hG hD1
              obtain ⟨V1, cv1, rfl⟩ := own_shape_n hO1 hLL.out
              have hBz : Below wr.drew.heap.size wr.drew wz := below_app (hZ.trans (hB5.mono hZ.size)) (Nat.le_trans hZ.size hbs) hG hO5 hZ.size
              have z0c := cell_keep (w := wr.drew) z0 hBz
              have z1c := cell_keep (w := wr.drew) z1 hBz
              refine hK.out _ _ ⟨z0c, z1c⟩ (fun hH => ?_)
              clear hK K
              try simp only [Act.put, List.setIfInBounds_toArray, List.set_cons_zero, List.set_cons_succ]
              refine wpAnyH_ready (rs := [16]) (by kernel_rfl) (by simp) ?_
              refine AllReadyH.cons rfl (fun K hK => ?_) AllReadyH.nil
              go_simp
              go_at_call 97
              rw [ints_snoc] at hO1
              refine (hih.out (f - 1) (by omega) (path ++ [u]) _ wz (by simp; omega) (g0.now hBz) hO1.lst (by simp) hg2.out).mono ?_
              rintro e7 w7 ⟨v7, out, rfl, hL7, hF7, hB7⟩
              have z0d := cell_keep (w := wr.drew) z0 (hBz.trans (hB7.mono hBz.size))
              have z1d := cell_keep (w := wr.drew) z1 (hBz.trans (hB7.mono hBz.size))
              refine hK.out _ _ ⟨z0d, z1d⟩ (fun hH => ?_)
              clear hK K
              try simp only [Act.put, List.setIfInBounds_toArray, List.set_cons_zero, List.set_cons_succ]
              refine tkH 17 (v := ?_) rfl (fun _ _ _ h => h) (Or.inl ⟨by rfl, ?_⟩) hH ?_
              rotate_left
              · intro w9 hSw
                try dsimp only at hSw
                obtain ⟨s0, s1⟩ := hSw
                go_simp
                try with_reducible rfl
              try simp only [Act.put, List.setIfInBounds_toArray, List.set_cons_zero, List.set_cons_succ]
              refine wpAnyH_done (by kernel_rfl) ?_ _
              have hBt := hB.trans ((hBd2.trans (hBz.trans (hB7.mono hBz.size))).mono hs)
              obtain ⟨V7, c7, rfl⟩ := hL7.shape
              rw [ints_len] at hL7 ⊢
              by_cases ho : out = []
              · have q9 : decide ((0 : Int) < (out.length : Int)) = false := by rw [ho]; rfl
                have q8 : out.length = 0 := by rw [ho]; rfl
                have q7 : ¬ 0 < out.length := by omega
                have hN' : Hid (∀ x, fi < x → x < u + 1 → arcG gp la x → ¬ x ∈ path → Barren gp n (path ++ [x])) := by
                  intro x q1 q2 q3 q4
                  by_cases e : x = u
                  · subst e; exact hF7.out.1 ho
                  · exact hN.out x q1 (by omega) q3 q4
                clear ho
                go_wp2
                go_roundw
                all_goals (first | exact ⟨⟨u + 1, by omega, hlt, by go_num, hN', hBt⟩, by simp [intOf]; omega⟩ | exact ⟨u + 1, by omega, hlt, by go_num, hN', hBt⟩ | (simp [intOf]; omega) | rfl)
              · have q9 : decide ((0 : Int) < (out.length : Int)) = true := by have := List.length_pos_iff.2 ho; simp; omega
                have q7 : 0 < out.length := List.length_pos_iff.2 ho
                have hF : Hid (Found gp n path out) := ⟨fun h => absurd h ho, hF7.out.2⟩
                clear ho
                go_wp2
                go_ret
                exact ⟨_, out, rfl, hL7, hF, hBd.trans (hBt.mono hBd.size)⟩
        · rw [hx, show bot = -1000000000000000 from rfl] at q0
          have hN' : Hid (∀ x, fi < x → x < u + 1 → arcG gp la x → ¬ x ∈ path → Barren gp n (path ++ [x])) := by
            intro x q1 q2 q3 q4
            by_cases e : x = u
            · subst e; exact absurd q3 ha
            · exact hN.out x q1 (by omega) q3 q4
          clear hx ha
          go_wp2
          go_roundw
          case rel => exact ⟨u + 1, by omega, hlt, by go_num, hN', hB⟩
          case measure => simp [intOf]; omega
      · obtain rfl : u = n := by omega
        have hF : Hid (Found gp u path []) := ⟨fun _ => hbar.out hna.out (fun x q1 q2 q3 q4 => hN.out x q1 q2 q3 q4), fun h => absurd rfl h⟩
        go_wp2
        go_ret
        exact ⟨_, [], rfl, Lst.nil, hF, hBd.trans (hB.mono hBd.size)⟩
set_option maxHeartbeats 4000000 in
set_option maxRecDepth 100000 in
theorem spec_l03Over (v : Value) (n : Nat) (gp : List Place) (w : World) (hok : Hid (okGraph n gp = true)) (hn : n ≤ 10) (h0 : LstM w w.heap.size v (freeM n gp)) :
    Calls Try.prog 76 #[v, .int .i64 (-1)] w fun r w' => ∃ v' out, r = .returned v' ∧ Lst intCell 1 w' w'.heap.size v' (ints out) ∧ Hid ((orderF n gp).isNone = decide (0 < out.length)) ∧ Below w.heap.size w w' := by
  obtain ⟨A, c, rfl⟩ := h0.shape
  rw [freeM_len] at h0 ⊢
  go_enter Try.func76, Try.ntmps76
  go_wp2
  go_loopw [5, 6] (fun i _ wr => ∃ u : Nat, u ≤ n ∧ i = .int .i64 u ∧ Hid (∀ x, x < u → Barren gp n [x]) ∧ Below w.heap.size w wr) (fun i _ _ => n - (intOf i).toNat)
  case atStart => exact ⟨0, Nat.zero_le _, rfl, fun x q => absurd q (by omega), Below.refl _ _⟩
  case round =>
    obtain ⟨u, hu, rfl, hN, hB⟩ := hrel
    have hs := hB.size
    by_cases hlt : u < n
    · have hZ : Below wr.heap.size wr (wr.alloc (.cells #[.int .i64 u] 2)) := (Below.refl _ _).alloc (Nat.le_refl _) _
      have hLst : Lst intCell 1 (wr.alloc (.cells #[.int .i64 u] 2)) (wr.alloc (.cells #[.int .i64 u] 2)).heap.size (.slice (some ⟨wr.heap.size, 0, none⟩) 1 1) (ints [u]) := (lst_new1 intCell 1 intCell_len wr 2 (u : Int) _ rfl _ rfl).more (by simp)
      have hc := Lib.hid (spec_l03Grow (.slice A n c) n gp hok hn n [u] (.slice (some ⟨wr.heap.size, 0, none⟩) 1 1) (wr.alloc (.cells #[.int .i64 u] 2)) (by simp) ((h0.now hB).now hZ) hLst (by simp) (good_one hlt))
      go_wp2_with fail
      refine hc.out.mono ?_
      rintro e7 w7 ⟨v7, out, rfl, hL7, hF7, hB7⟩
      have hBt := hB.trans ((hZ.trans (hB7.mono hZ.size)).mono hs)
      obtain ⟨V7, c7, rfl⟩ := hL7.shape
      rw [ints_len] at hL7 ⊢
      by_cases ho : out = []
      · have q8 : out.length = 0 := by rw [ho]; rfl
        have q7 : ¬ 0 < out.length := by omega
        have hN' : Hid (∀ x, x < u + 1 → Barren gp n [x]) := by
          intro x q
          by_cases e : x = u
          · subst e; exact hF7.out.1 ho
          · exact hN.out x (by omega)
        clear ho hc
        go_wp2
        go_roundw
        case rel => exact ⟨u + 1, hlt, by go_num, hN', hBt⟩
        case measure => simp [intOf]; omega
      · have q7 : 0 < out.length := List.length_pos_iff.2 ho
        have hD : Hid ((orderF n gp).isNone = decide (0 < out.length)) := dead_iff hok.out (fun h => absurd h ho) hF7.out.2
        clear ho hc
        go_wp2
        go_ret
        exact ⟨_, out, rfl, hL7, hD, hBt⟩
    · obtain rfl : u = n := by omega
      have hD : Hid ((orderF u gp).isNone = decide (0 < ([] : List Nat).length)) := dead_iff hok.out (fun _ => hN.out) (fun h => absurd rfl h)
      go_wp2
      go_ret
      exact ⟨_, [], rfl, Lst.nil, hD, hB⟩
set_option maxHeartbeats 4000000 in
set_option maxRecDepth 100000 in
theorem spec_l12Dead (v : Value) (n : Nat) (gp : List Place) (w : World) (h0 : Lst Place.cells 4 w w.heap.size v gp) (hok : Hid (okGraph n gp = true)) :
    Calls Try.prog 52 #[.agg #[.int .i64 n, v]] w fun r w' => ∃ v' out, r = .returned v' ∧ Lst intCell 1 w' w'.heap.size v' (ints out) ∧ Hid ((orderF n gp).isNone = decide (0 < out.length)) ∧ Below w.heap.size w w' := by
  obtain ⟨A, c, rfl⟩ := h0.shape
  obtain ⟨hge1, hge2⟩ := okGraph_ev hok.out
  go_enter Try.func52, Try.ntmps52
  go_wp2_with fail
  have hW : Below w.heap.size w (w.alloc (.cells #[.int .i64 (n:Int), .slice A gp.length c] 26)) := (Below.refl _ _).alloc (Nat.le_refl _) _; have hb0 : Blk (w.alloc (.cells #[.int .i64 (n:Int), .slice A gp.length c] 26)) w.heap.size 26 #[.int .i64 (n:Int), .slice A gp.length c] := Blk.new _ _ _; replace h0 := h0.now hW; generalize (w.alloc (.cells #[.int .i64 (n:Int), .slice A gp.length c] 26)) = W at *
  have hWs := hW.size
  refine (spec_l12Free _ n gp W h0 hok.out).mono ?_
  rintro e w1 ⟨u, rfl, hM, hB⟩
  go_wp2_with fail
  refine (spec_l03Over _ n gp w1 hok (by omega) hM.lst).mono ?_
  rintro e w2 ⟨v2, out, rfl, hL, hD, hB2⟩
  go_wp2
  go_ret
  exact ⟨_, out, rfl, hL, hD, hW.trans ((hB.trans (hB2.mono hB.size)).mono hWs)⟩
/-- The code of a graph that has to be live. -/
def liveC (ge : Int) (gp : List Place) : Int := if okGraph ge gp = false then 1 else if (orderF ge.toNat gp).isNone = true then 5 else 0
set_option maxHeartbeats 4000000 in
set_option maxRecDepth 100000 in
theorem spec_l12Live (v : Value) (ge : Int) (gp : List Place) (w : World) (h0 : Lst Place.cells 4 w w.heap.size v gp) :
    Calls Try.prog 26 #[.agg #[.int .i64 ge, v]] w fun r w' => r = .returned (.int .i64 (liveC ge gp)) ∧ Below w.heap.size w w' := by
  obtain ⟨A, c, rfl⟩ := h0.shape
  go_enter Try.func26, Try.ntmps26
  go_wp2_with fail
  have hW : Below w.heap.size w (w.alloc (.cells #[.int .i64 ge, .slice A gp.length c] 26)) := (Below.refl _ _).alloc (Nat.le_refl _) _; have hb0 : Blk (w.alloc (.cells #[.int .i64 ge, .slice A gp.length c] 26)) w.heap.size 26 #[.int .i64 ge, .slice A gp.length c] := Blk.new _ _ _; replace h0 := h0.now hW; generalize (w.alloc (.cells #[.int .i64 ge, .slice A gp.length c] 26)) = W at *
  refine (spec_IsEventGraph _ _ _ _ h0).mono ?_
  rintro e w1 ⟨rfl, hB⟩
  replace hW := hW.trans (hB.mono hW.size); replace h0 := h0.now hB; replace hb0 := hb0.now hB
  obtain ⟨k0, k1⟩ := hb0.c2
  clear hB
  cases hg : okGraph ge gp
  · have hE : Hid (liveC ge gp = 1) := by show _ = _; simp [liveC, hg]
    clear hg
    go_wp2
    go_ret
    exact ⟨ret_int hE.out.symm, hW⟩
  · obtain ⟨hge1, hge2⟩ := okGraph_ev hg
    obtain ⟨n, rfl⟩ := Int.eq_ofNat_of_zero_le (show 0 ≤ ge by omega)
    have hg' := Lib.hid hg
    clear hg
    go_wp2_with fail
    refine (spec_l12Dead _ n gp w1 h0 hg').mono ?_
    rintro e w2 ⟨v2, out, rfl, hL, hD, hB2⟩
    obtain ⟨V7, c7, rfl⟩ := hL.shape
    rw [ints_len] at hL ⊢
    by_cases ho : out = []
    · have q8 : out.length = 0 := by rw [ho]; rfl
      have q7 : ¬ 0 < out.length := by omega
      have hE : Hid (liveC n gp = 0) := by show _ = _; simp [liveC, hg'.out, hD.out, q7]
      clear ho
      go_wp2
      go_ret
      exact ⟨ret_int hE.out.symm, hW.trans (hB2.mono hW.size)⟩
    · have q7 : 0 < out.length := List.length_pos_iff.2 ho
      have hE : Hid (liveC n gp = 5) := by show _ = _; simp [liveC, hg'.out, hD.out, q7]
      clear ho
      go_wp2
      go_ret
      exact ⟨ret_int hE.out.symm, hW.trans (hB2.mono hW.size)⟩
end Go.Proofs.Ytcoomogabicfnaa
