/-
  The walks of the draws of a sequence and of a marking, and of an index and of two events; contracts of enabling and firing at any numbers.
-/
import Derived.Test.YtkbhbmoogkjafaaDrI
import Derived.Test.YtkbhbmoogkjafaaDrB
import Derived.Test.YtkbhbmoogkjafaaSeq
import Derived.Test.YtkbhbmoogkjafaaDrC
namespace Go.Proofs.Ytkbhbmoogkjafaa
open Go.RowKit
set_option linter.unusedVariables false
set_option linter.unusedSimpArgs false
set_option maxHeartbeats 2000000 in
set_option maxRecDepth 100000 in
theorem spec_l17EnabledW (v : Value) (ge : Int) (gp : List Place) (u : Value) (m : List Int) (ev : Int) (w : World) (h0 : Lst Place.cells 4 w w.heap.size v gp) (h1 : Lst intCell 1 w w.heap.size u m) (hlen : m.length = gp.length) :
    Calls Try.prog 124 #[.agg #[.int .i64 ge, v], u, .int .i64 ev] w fun r w' => ∃ b, r = .returned (.bool b) ∧ Below w.heap.size w w' := by
  obtain ⟨A, c, rfl⟩ := h0.shape
  obtain ⟨C, d, rfl⟩ := h1.shape
  have hl := h0.len_le
  have hlen1 : m.length ≤ gp.length := by omega
  have hlen2 : gp.length ≤ m.length := by omega
  clear hlen
  go_enter Try.func124, Try.ntmps124
  go_wp2
  have hW : Below w.heap.size w (w.alloc (.cells #[.int .i64 ge, .slice A gp.length c] 26)) := (Below.refl _ _).alloc (Nat.le_refl _) _; have hb0 : Blk (w.alloc (.cells #[.int .i64 ge, .slice A gp.length c] 26)) w.heap.size 26 #[.int .i64 ge, .slice A gp.length c] := Blk.new _ _ _; replace h0 := h0.now hW; replace h1 := h1.now hW; generalize (w.alloc (.cells #[.int .i64 ge, .slice A gp.length c] 26)) = W at *
  go_loopw [7] (fun i wr => ∃ k : Nat, k ≤ gp.length ∧ i = .int .i64 k ∧ Below W.heap.size W wr) (fun i _ => gp.length - (intOf i).toNat)
  case atStart => exact ⟨0, Nat.zero_le _, rfl, Below.refl _ _⟩
  case round =>
    obtain ⟨k, hk, rfl, hB⟩ := hrel
    obtain ⟨k0, k1⟩ := (hb0.now hB).c2
    by_cases hlt : k < gp.length
    · have hlt3 : k < m.length := by omega
      obtain ⟨b, off, hb1, hb, d0, d1, d2, d3⟩ := places_at (h0.now hB) k hlt
      obtain ⟨b2, off2, hb2, hb3, e0⟩ := ints_at (h1.now hB) k hlt3
      cases hb1
      cases hb2
      by_cases hd : gp[k].dst = ev
      · have hd1 : (gp[k].dst == ev) = true := by simp [hd]
        by_cases hz : m[k] = 0
        · have hz1 : (m[k] == 0) = true := by simp [hz]
          clear hd hz
          go_wp2
          go_ret
          exact ⟨_, rfl, hW.trans (hB.mono hW.size)⟩
        · have hz1 : (m[k] == 0) = false := by simpa using hz
          clear hd hz
          go_wp2
          go_roundw
          case rel => exact ⟨k + 1, hlt, by go_num, hB⟩
          case measure => simp [intOf]; omega
      · have hd1 : (gp[k].dst == ev) = false := by simpa using hd
        clear hd
        go_wp2
        go_roundw
        case rel => exact ⟨k + 1, hlt, by go_num, hB⟩
        case measure => simp [intOf]; omega
    · obtain rfl : k = gp.length := by omega
      go_wp2
      go_ret
      exact ⟨_, rfl, hW.trans (hB.mono hW.size)⟩
set_option maxHeartbeats 2000000 in
set_option maxRecDepth 100000 in
theorem spec_l17FireW (v : Value) (n : Nat) (gp : List Place) (u : Value) (m : List Int) (ev : Int) (w : World) (h0 : Lst Place.cells 4 w w.heap.size v gp) (h1 : Lst intCell 1 w w.heap.size u m) (hg : Hid (okGraph n gp = true)) (hl : Hid (m.length = gp.length)) (hm : Hid (∀ x ∈ m, -1000 ≤ x ∧ x ≤ 1000)) (hgl : gp.length ≤ 30) :
    Calls Try.prog 125 #[.agg #[.int .i64 n, v], u, .int .i64 ev] w (RetOwnB intCell 1 2 w (fireM gp m ev) (okMarking gp (fireM gp m ev))) := by
  obtain ⟨A, c, rfl⟩ := h0.shape
  obtain ⟨C, d, rfl⟩ := h1.shape
  have hlen1 : m.length ≤ gp.length := by have := hl.out; omega
  have hlen2 : gp.length ≤ m.length := by have := hl.out; omega
  have hz := Lib.hid (fireM_len gp m ev hl.out)
  go_enter Try.func125, Try.ntmps125
  go_wp2_with fail
  have hW : Below w.heap.size w (w.alloc (.cells #[.int .i64 n, .slice A gp.length c] 26)) := (Below.refl _ _).alloc (Nat.le_refl _) _; have hb0 : Blk (w.alloc (.cells #[.int .i64 n, .slice A gp.length c] 26)) w.heap.size 26 #[.int .i64 n, .slice A gp.length c] := Blk.new _ _ _; replace h0 := h0.now hW; replace h1 := h1.now hW; generalize (w.alloc (.cells #[.int .i64 n, .slice A gp.length c] 26)) = W at *
  refine (spec_l01Own _ _ _ h1 (by omega)).mono ?_
  rintro e w2 ⟨y, rfl, hO, hB⟩
  obtain ⟨Y, cy, rfl⟩ := hO.shape
  go_wp2
  go_loopw [9] (fun i wr => ∃ k : Nat, k ≤ gp.length ∧ i = .int .i64 k ∧ Own intCell 1 2 wr W.heap.size (.slice Y m.length cy) (mix (fireM gp m ev) m k) ∧ Below W.heap.size W wr) (fun i _ => gp.length - (intOf i).toNat)
  case atStart => exact ⟨0, Nat.zero_le _, rfl, by rw [mix_zero]; exact hO, hB⟩
  case round =>
    clear hO hB
    obtain ⟨k, hk, rfl, hO, hB⟩ := hrel
    have hs := hB.size
    obtain ⟨k0, k1⟩ := (hb0.now hB).c2
    by_cases hlt : k < gp.length
    · have hlt3 : k < m.length := by omega
      obtain ⟨b, off, hb1, hb, d0, d1, d2, d3⟩ := places_at h0 k hlt
      cases hb1
      replace d0 := cell_keep d0 hB
      replace d1 := cell_keep d1 hB
      have hlen : k < (mix (fireM gp m ev) m k).length := by rw [mix_len hz.out]; exact hlt3
      obtain ⟨g, c', hA, hgb, hgl, hfz, _⟩ := hO.at_ intCell_len k hlen
      obtain rfl : Y = some ⟨g, 0, none⟩ := by injection hA
      clear hA
      obtain ⟨_, _, _, e0⟩ := own_ints_at hO k hlen
      rw [mix_get hz.out k hlt3] at e0
      have hx := hm.out m[k] (List.getElem_mem hlt3)
      have hw0 := hb0.lt
      have hw1 : w.heap.size ≠ g := by omega
      have hw2 : g ≠ w.heap.size := by omega
      have hw3 : b ≠ g := by omega
      have hw4 : g ≠ b := by omega
      have hS : Hid (mix (fireM gp m ev) m (k + 1) = (mix (fireM gp m ev) m k).set k (fire1 gp[k] m[k] ev)) := by
        show _ = _
        rw [← mix_set hz.out k hlt3 (by rw [hz.out]; exact hlt3), fireM_get _ _ _ _ hlt hlt3]
      have hN : Hid (fire1 gp[k] m[k] ev = m[k] → mix (fireM gp m ev) m (k + 1) = mix (fireM gp m ev) m k) := by
        intro e
        rw [hS.out, e]
        have := mix_get hz.out k hlt3 hlen
        rw [← this, List.set_getElem_self]
      cases hd : (gp[k].dst == ev)
      · cases hsr : (gp[k].src == ev)
        · have hv : Hid (fire1 gp[k] m[k] ev = m[k]) := by show _ = _; simp only [beq_eq_false_iff_ne] at hd hsr; simp [fire1, hd, hsr]
          go_wp2
          go_roundw
          case rel => exact ⟨k + 1, hlt, by go_num, by rw [hN.out hv.out]; exact hO, hB⟩
          case measure => simp [intOf]; omega
        · have hv : Hid (fire1 gp[k] m[k] ev = m[k] + 1) := by show _ = _; simp only [beq_eq_false_iff_ne, beq_iff_eq] at hd hsr; simp [fire1, hd, hsr]
          go_wp2
          go_roundw
          case rel => exact ⟨k + 1, hlt, by go_num, by rw [hS.out, hv.out]; exact hO.set1 k hlen _, hB.setCell hgb _⟩
          case measure => simp [intOf]; omega
      · cases hsr : (gp[k].src == ev)
        · have hv : Hid (fire1 gp[k] m[k] ev = m[k] - 1) := by show _ = _; simp only [beq_eq_false_iff_ne, beq_iff_eq] at hd hsr; simp [fire1, hd, hsr]
          go_wp2
          go_roundw
          case rel => exact ⟨k + 1, hlt, by go_num, by rw [hS.out, hv.out]; exact hO.set1 k hlen _, hB.setCell hgb _⟩
          case measure => simp [intOf]; omega
        · have hv : Hid (fire1 gp[k] m[k] ev = m[k]) := by show _ = _; simp only [beq_eq_false_iff_ne, beq_iff_eq] at hd hsr; simp [fire1, hd, hsr]
          go_wp2
          go_roundw
          case rel =>
            have hO2 := (hO.set1 k hlen (m[k] - 1)).set1 k (by simpa using hlen) m[k]
            rw [List.set_set] at hO2
            exact ⟨k + 1, hlt, by go_num, by rw [hS.out, hv.out]; exact hO2, (hB.setCell hgb _).setCell hgb _⟩
          case measure => simp [intOf]; omega
    · obtain rfl : k = gp.length := by omega
      have hmx : Hid (mix (fireM gp m ev) m gp.length = fireM gp m ev) := by show _ = _; rw [← hl.out]; exact mix_all hz.out
      rw [hmx.out] at hO
      go_wp2_with fail
      refine (spec_IsMarking _ _ _ _ _ _ (h0.now hB) hO.lst).mono ?_
      rintro e w3 ⟨rfl, hB3⟩
      rw [hg.out, Bool.true_and]
      go_wp2
      go_ret2
      exact ⟨_, rfl, (hO.now hB3).rebase hW.size, hW.trans ((hB.trans (hB3.mono hs)).mono hW.size)⟩
theorem fireM_bd {gp : List Place} {m : List Int} {e B : Int} (h : ∀ x ∈ m, -B ≤ x ∧ x ≤ B) : ∀ x ∈ fireM gp m e, -(B + 1) ≤ x ∧ x ≤ B + 1 := by
  intro x hx
  unfold fireM at hx
  obtain ⟨i, hi, rfl⟩ := List.mem_iff_getElem.1 hx
  simp only [List.getElem_zipWith]
  have := h _ (List.getElem_mem (show i < m.length by simp at hi; omega))
  unfold fire1
  split <;> split <;> omega
set_option maxHeartbeats 8000000 in
set_option maxRecDepth 100000 in
theorem spec_l11DrawIndex (g : Nat) (w : World) (h : Src w g) :
    Calls Try.prog 137 #[.pointer (some ⟨g, 0, none⟩)] w fun e w' => ∃ ge gp v n, e = .returned (.tuple #[.agg #[.int .i64 ge, v], .int .i64 n]) ∧ 0 ≤ ge ∧ ge ≤ 11 ∧ gp.length ≤ 40 ∧ -1 ≤ n ∧ n ≤ 41 ∧ Own Place.cells 4 45 w' w.heap.size v gp ∧ Drawn w g w' := by
  have hgw := h.lt
  go_enter Try.func137, Try.ntmps137
  go_wp2_with fail
  have hA : Below w.heap.size w (w.alloc (.cells #[.int .i64 0, .slice none 0 0] 26)) := (Below.refl _ _).alloc (Nat.le_refl _) _
  refine (spec_l11Draw g _ (h.now hA)).mono ?_
  rintro e w1 ⟨ge, gp, v, rfl, hg0, hg1, hlen, hO, hN⟩
  obtain ⟨A, c, rfl⟩ := hO.shape
  have hres := (Blk.new w 26 #[.int .i64 0, .slice none 0 0]).grown hN.2 (fun e => by injection e with e; omega)
  have hG1 := grown_trans (grown_of_below (r := some g) hA) hN.2
  have hs1 := hG1.size
  have hlt1 := hres.lt
  have hA2 : Below w1.heap.size w1 (w1.alloc (.cells #[.int .i64 ge, .slice A gp.length c] 26)) := (Below.refl _ _).alloc (Nat.le_refl _) _
  have hD : Dr w g w.heap.size w1.heap.size (w1.alloc (.cells #[.int .i64 ge, .slice A gp.length c] 26)) ge (.slice A gp.length c) gp :=
    ⟨hN.1.now hA2, grown_trans hG1 (grown_of_below hA2), hres.now hA2, Blk.newAt _ _ rfl, (hO.rebase hA.size).now hA2, Nat.le_refl _, hs1, by omega, hgw⟩
  obtain ⟨e0, e1⟩ := hD.box.c2
  have lbg := hD.box.lt
  go_wp2_with fail
  clear e0 e1 lbg
  obtain ⟨bg, hbg⟩ : ∃ bg, w1.heap.size = bg := ⟨_, rfl⟩
  obtain ⟨b2, hb2⟩ : ∃ b2, w.heap.size = b2 := ⟨_, rfl⟩
  have hD' : Dr w g b2 bg (w1.alloc (.cells #[.int .i64 ge, .slice A gp.length c] 26)) ge (.slice A gp.length c) gp := by rw [← hb2, ← hbg]; exact hD
  rw [hbg]
  rw [show (Value.pointer (some ⟨w.heap.size, 0, none⟩)) = .pointer (some ⟨b2, 0, none⟩) by rw [hb2]]
  clear hN hO hres hG1 hs1 hlt1 hD hA hA2 hbg hb2
  generalize w1.alloc (.cells #[.int .i64 ge, .slice A gp.length c] 26) = W2 at *
  refine (spec_l01Next g 20 _ hD'.src (by omega)).mono ?_
  rintro e wa ⟨y20, rfl, hy, hN⟩
  have hD := hD'.draw hN
  clear hy hN hD'
  by_cases hz : y20 = 0
  · have q20 : (y20 == 0) = true := by simp [hz]
    clear hz
    have hBd : Below wa.heap.size wa wa.drew := Below.drew (Below.refl _ wa)
    replace hD := hD.below hBd
    obtain ⟨e0, e1⟩ := hD.box.c2
    have lbg := hD.box.lt
    clear hBd
    go_wp2_with fail
    refine wp_region_held_drew (S := fun w' => w'.cell? ⟨bg, 0, none⟩ = some (.int .i64 ge) ∧ w'.cell? ⟨bg, 1, none⟩ = some (.slice A gp.length c)) (by kernel_rfl) ⟨e0, e1⟩ (fun hH => ?_)
    generalize wa.drew = Va at *
    refine wpAnyH_take (i := 0) (oi := { dst := _, op := _, type := _, pos := _, after := _, guard := _ }) (v := ?_) rfl (by kernel_rfl) (by kernel_rfl) (by kernel_rfl) (fun _ _ _ h => h) (Or.inl ⟨by rfl, ?_⟩) hH ?_
    rotate_left
    · intro w9 hSw
      try dsimp only at hSw
      obtain ⟨s0, s1⟩ := hSw
      go_simp
      try with_reducible rfl
    try simp only [Act.put, List.setIfInBounds_toArray, List.set_cons_zero, List.set_cons_succ]
    refine wpAnyH_take (i := 1) (oi := { dst := _, op := _, type := _, pos := _, after := _, guard := _ }) (v := ?_) rfl (by kernel_rfl) (by kernel_rfl) (by kernel_rfl) (fun _ _ _ h => h) (Or.inl ⟨by rfl, ?_⟩) hH ?_
    rotate_left
    · intro w9 hSw
      try dsimp only at hSw
      obtain ⟨s0, s1⟩ := hSw
      go_simp
      try with_reducible rfl
    try simp only [Act.put, List.setIfInBounds_toArray, List.set_cons_zero, List.set_cons_succ]
    refine wpAnyH_take (i := 2) (oi := { dst := _, op := _, type := _, pos := _, after := _, guard := _ }) (v := ?_) rfl (by kernel_rfl) (by kernel_rfl) (by kernel_rfl) (fun _ _ _ h => h) (Or.inl ⟨by rfl, ?_⟩) hH ?_
    rotate_left
    · intro w9 hSw
      try dsimp only at hSw
      obtain ⟨s0, s1⟩ := hSw
      go_simp
      try with_reducible rfl
    try simp only [Act.put, List.setIfInBounds_toArray, List.set_cons_zero, List.set_cons_succ]
    refine wpAnyH_ready (rs := [3]) (by kernel_rfl) (by simp) ?_
    refine AllReadyH.cons rfl (fun K hK => ?_) AllReadyH.nil
    have hZ : Below Va.heap.size Va (Va.alloc (.cells #[.int .i64 (-1), .int .i64 (gp.length : Nat)] 2)) := (Below.refl _ _).alloc (Nat.le_refl _) _
    replace hD := hD.below hZ
    clear e0 e1 hZ
    obtain ⟨e0, e1⟩ := hD.box.c2
    go_simp
    refine hK.out _ _ ⟨e0, e1⟩ (fun hH => ?_)
    clear hK K
    try simp only [Act.put, List.setIfInBounds_toArray, List.set_cons_zero, List.set_cons_succ]
    refine wpAnyH_ready (rs := [4]) (by kernel_rfl) (by simp) ?_
    refine AllReadyH.cons rfl (fun K hK => ?_) AllReadyH.nil
    go_simp
    go_at_call 111
    refine (spec_l01Pick g Va.heap.size [-1, (gp.length : Int)] _ hD.src (Blk.newAt _ _ rfl) (by simp) (by simp)).mono ?_
    rintro e vb ⟨nn, hnn, rfl, hN⟩
    have hn9 : -1 ≤ nn ∧ nn ≤ 41 := by simp at hnn; omega
    replace hD := hD.draw hN
    clear hnn hN e0 e1 lbg
    obtain ⟨e0, e1⟩ := hD.box.c2
    refine hK.out _ _ ⟨e0, e1⟩ (fun hH => ?_)
    clear hK K
    try simp only [Act.put, List.setIfInBounds_toArray, List.set_cons_zero, List.set_cons_succ]
    have f0 := hD.res.frozen 0
    have f1 := hD.res.frozen 1
    have lb2 := hD.res.lt
    obtain ⟨r0, r1⟩ := hD.res.c2
    have hF := Lib.hid hD.fin
    have hbx := (hD.box.far (p := ⟨b2, 0, none⟩) (Ne.symm hD.hne) (.int .i64 ge)).far (p := ⟨b2, 1, none⟩) (Ne.symm hD.hne) (.slice A gp.length c)
    obtain ⟨x0, x1⟩ := hbx.c2
    refine wpAnyH_ready (rs := [5]) (by kernel_rfl) (by simp) ?_
    refine AllReadyH.cons rfl (fun K hK => ?_) AllReadyH.nil
    go_simp
    refine hK.out _ _ ⟨x0, x1⟩ (fun hH => ?_)
    clear hK K
    try simp only [Act.put, List.setIfInBounds_toArray, List.set_cons_zero, List.set_cons_succ]
    refine wpAnyH_take (i := 6) (oi := { dst := _, op := _, type := _, pos := _, after := _, guard := _ }) (v := ?_) rfl (by kernel_rfl) (by kernel_rfl) (by kernel_rfl) (fun _ _ _ h => h) (Or.inl ⟨by rfl, ?_⟩) hH ?_
    rotate_left
    · intro w9 hSw
      try dsimp only at hSw
      obtain ⟨s0, s1⟩ := hSw
      go_simp
      try with_reducible rfl
    try simp only [Act.put, List.setIfInBounds_toArray, List.set_cons_zero, List.set_cons_succ]
    refine wpAnyH_done (by kernel_rfl) ?_ _
    clear hH hD hbx x0 x1 e0 e1
    go_wp2
    refine bodyPost_ret (v := .tuple #[.agg #[.int .i64 ge, .slice A gp.length c], .int .i64 nn]) (by simp [results, Try.results137, go_sem, r0, r1]) rfl ⟨ge, gp, _, nn, rfl, by omega, by omega, by omega, by omega, by omega, hF.out.1, hF.out.2⟩
  · have q20 : (y20 == 0) = false := by simpa using hz
    clear hz
    have hBd : Below wa.heap.size wa wa.drew := Below.drew (Below.refl _ wa)
    replace hD := hD.below hBd
    obtain ⟨e0, e1⟩ := hD.box.c2
    have lbg := hD.box.lt
    clear hBd
    go_wp2_with fail
    refine wp_region_held_drew (S := fun w' => w'.cell? ⟨bg, 0, none⟩ = some (.int .i64 ge) ∧ w'.cell? ⟨bg, 1, none⟩ = some (.slice A gp.length c)) (by kernel_rfl) ⟨e0, e1⟩ (fun hH => ?_)
    generalize wa.drew = Va at *
    refine wpAnyH_take (i := 0) (oi := { dst := _, op := _, type := _, pos := _, after := _, guard := _ }) (v := ?_) rfl (by kernel_rfl) (by kernel_rfl) (by kernel_rfl) (fun _ _ _ h => h) (Or.inl ⟨by rfl, ?_⟩) hH ?_
    rotate_left
    · intro w9 hSw
      try dsimp only at hSw
      obtain ⟨s0, s1⟩ := hSw
      go_simp
      try with_reducible rfl
    try simp only [Act.put, List.setIfInBounds_toArray, List.set_cons_zero, List.set_cons_succ]
    refine wpAnyH_take (i := 1) (oi := { dst := _, op := _, type := _, pos := _, after := _, guard := _ }) (v := ?_) rfl (by kernel_rfl) (by kernel_rfl) (by kernel_rfl) (fun _ _ _ h => h) (Or.inl ⟨by rfl, ?_⟩) hH ?_
    rotate_left
    · intro w9 hSw
      try dsimp only at hSw
      obtain ⟨s0, s1⟩ := hSw
      go_simp
      try with_reducible rfl
    try simp only [Act.put, List.setIfInBounds_toArray, List.set_cons_zero, List.set_cons_succ]
    refine wpAnyH_take (i := 2) (oi := { dst := _, op := _, type := _, pos := _, after := _, guard := _ }) (v := ?_) rfl (by kernel_rfl) (by kernel_rfl) (by kernel_rfl) (fun _ _ _ h => h) (Or.inl ⟨by rfl, ?_⟩) hH ?_
    rotate_left
    · intro w9 hSw
      try dsimp only at hSw
      obtain ⟨s0, s1⟩ := hSw
      go_simp
      try with_reducible rfl
    try simp only [Act.put, List.setIfInBounds_toArray, List.set_cons_zero, List.set_cons_succ]
    refine wpAnyH_ready (rs := [3]) (by kernel_rfl) (by simp) ?_
    refine AllReadyH.cons rfl (fun K hK => ?_) AllReadyH.nil
    go_simp
    go_at_call 112
    refine (spec_l01Next g (gp.length : Int) _ hD.src (by omega)).mono ?_
    rintro e vb ⟨nn, rfl, hnn, hN⟩
    replace hD := hD.draw hN
    have hn9 : 0 ≤ nn ∧ nn ≤ 41 := by obtain ⟨n1, n2, n3⟩ := hnn; omega
    clear hnn hN e0 e1 lbg
    obtain ⟨e0, e1⟩ := hD.box.c2
    refine hK.out _ _ ⟨e0, e1⟩ (fun hH => ?_)
    clear hK K
    try simp only [Act.put, List.setIfInBounds_toArray, List.set_cons_zero, List.set_cons_succ]
    have f0 := hD.res.frozen 0
    have f1 := hD.res.frozen 1
    have lb2 := hD.res.lt
    obtain ⟨r0, r1⟩ := hD.res.c2
    have hF := Lib.hid hD.fin
    have hbx := (hD.box.far (p := ⟨b2, 0, none⟩) (Ne.symm hD.hne) (.int .i64 ge)).far (p := ⟨b2, 1, none⟩) (Ne.symm hD.hne) (.slice A gp.length c)
    obtain ⟨x0, x1⟩ := hbx.c2
    refine wpAnyH_ready (rs := [4]) (by kernel_rfl) (by simp) ?_
    refine AllReadyH.cons rfl (fun K hK => ?_) AllReadyH.nil
    go_simp
    refine hK.out _ _ ⟨x0, x1⟩ (fun hH => ?_)
    clear hK K
    try simp only [Act.put, List.setIfInBounds_toArray, List.set_cons_zero, List.set_cons_succ]
    refine wpAnyH_take (i := 5) (oi := { dst := _, op := _, type := _, pos := _, after := _, guard := _ }) (v := ?_) rfl (by kernel_rfl) (by kernel_rfl) (by kernel_rfl) (fun _ _ _ h => h) (Or.inl ⟨by rfl, ?_⟩) hH ?_
    rotate_left
    · intro w9 hSw
      try dsimp only at hSw
      obtain ⟨s0, s1⟩ := hSw
      go_simp
      try with_reducible rfl
    try simp only [Act.put, List.setIfInBounds_toArray, List.set_cons_zero, List.set_cons_succ]
    refine wpAnyH_done (by kernel_rfl) ?_ _
    clear hH hD hbx x0 x1 e0 e1
    go_wp2
    refine bodyPost_ret (v := .tuple #[.agg #[.int .i64 ge, .slice A gp.length c], .int .i64 nn]) (by simp [results, Try.results137, go_sem, r0, r1]) rfl ⟨ge, gp, _, nn, rfl, by omega, by omega, by omega, by omega, by omega, hF.out.1, hF.out.2⟩
set_option maxHeartbeats 4000000 in
set_option maxRecDepth 100000 in
theorem spec_DrawTokenBound (cv : Value) (bs : List Int) (w : World) (h0 : Lst byteCell 1 w w.heap.size cv bs) (hbv : Hid (∀ b ∈ bs, 0 ≤ b ∧ b ≤ 255)) :
    Calls Try.prog 41 #[cv] w fun e w' => ∃ ge gp v n, e = .returned (.tuple #[.agg #[.int .i64 ge, v], .int .i64 n]) ∧ 0 ≤ ge ∧ ge ≤ 11 ∧ gp.length ≤ 40 ∧ Own Place.cells 4 45 w' w.heap.size v gp ∧ Below w.heap.size w w' := by
  go_enter Try.func41, Try.ntmps41
  go_wp2_with fail
  have hA : Below w.heap.size w (w.alloc (.cells #[.int .i64 0, .slice none 0 0] 26)) := (Below.refl _ _).alloc (Nat.le_refl _) _
  have hres := Blk.newAt w (t := 26) (cs := #[.int .i64 0, .slice none 0 0]) _ rfl
  have hszA : (w.alloc (.cells #[.int .i64 0, .slice none 0 0] 26)).heap.size = w.heap.size + 1 := by simp
  refine (spec_l01From _ bs _ (h0.now hA) hbv).mono ?_
  rintro e w1 ⟨rfl, hS, hB1⟩
  rw [hszA] at hS hB1 ⊢
  have hB : Below w.heap.size w w1 := hA.trans (hB1.mono (by omega))
  replace hres := hres.below hB1 (by omega)
  obtain ⟨b2, hb2⟩ : ∃ b2, w.heap.size = b2 := ⟨_, rfl⟩
  obtain ⟨g, hg⟩ : ∃ g, w.heap.size + 1 = g := ⟨_, rfl⟩
  have hgb : w.heap.size ≤ g := by omega
  rw [hg] at hS ⊢
  rw [hb2] at hres
  rw [show (Value.pointer (some ⟨w.heap.size, 0, none⟩)) = .pointer (some ⟨b2, 0, none⟩) by rw [hb2]]
  have hb2w : w.heap.size ≤ b2 := by omega
  have hs1 := hB.size
  clear hA hszA hB1 hb2 hg
  go_wp2_with fail
  refine (spec_l11DrawIndex g _ hS).mono ?_
  rintro e w2 ⟨ge, gp, v, n, rfl, hg0, hg1, hlen, hn1, hn2, hO, hN⟩
  obtain ⟨A, c, rfl⟩ := hO.shape
  replace hO := hO.rebase hs1
  replace hres := blk_draw hres (by decide) hS hN
  replace hB := below_draw hB hs1 hgb hN
  clear hN hs1 hS
  have f0 := hres.frozen 0
  have f1 := hres.frozen 1
  have lb2 := hres.lt
  obtain ⟨r0, r1⟩ := hres.c2
  have hq1 := Lib.hid (own_far (own_far hO (p := ⟨b2, 0, none⟩) (hO.ne_blk hres (by decide)) (.int .i64 ge)) (p := ⟨b2, 1, none⟩) (hO.ne_blk hres (by decide)) (.slice A gp.length c))
  have hq3 := Lib.hid ((hB.setCell (p := ⟨b2, 0, none⟩) hb2w (.int .i64 ge)).setCell (p := ⟨b2, 1, none⟩) hb2w (.slice A gp.length c))
  clear hO hres hB
  go_wp2
  refine bodyPost_ret (v := .tuple #[.agg #[.int .i64 ge, .slice A gp.length c], .int .i64 n]) (by simp [results, Try.results41, go_sem, r0, r1]) rfl ⟨ge, gp, _, n, rfl, by omega, by omega, by omega, hq1.out, hq3.out⟩
set_option maxHeartbeats 16000000 in
set_option maxRecDepth 100000 in
theorem spec_DrawTokenDistance (cv : Value) (bs : List Int) (w : World) (h0 : Lst byteCell 1 w w.heap.size cv bs) (hbv : Hid (∀ b ∈ bs, 0 ≤ b ∧ b ≤ 255)) :
    Calls Try.prog 44 #[cv] w fun e w' => ∃ ge gp v n k, e = .returned (.tuple #[.agg #[.int .i64 ge, v], .int .i64 n, .int .i64 k]) ∧ 0 ≤ ge ∧ ge ≤ 11 ∧ gp.length ≤ 40 ∧ Own Place.cells 4 45 w' w.heap.size v gp ∧ Below w.heap.size w w' := by
  go_enter Try.func44, Try.ntmps44
  go_wp2_with fail
  have hA : Below w.heap.size w (w.alloc (.cells #[.int .i64 0, .slice none 0 0] 26)) := (Below.refl _ _).alloc (Nat.le_refl _) _
  have hres := Blk.newAt w (t := 26) (cs := #[.int .i64 0, .slice none 0 0]) _ rfl
  have hszA : (w.alloc (.cells #[.int .i64 0, .slice none 0 0] 26)).heap.size = w.heap.size + 1 := by simp
  refine (spec_l01From _ bs _ (h0.now hA) hbv).mono ?_
  rintro e w1 ⟨rfl, hS, hB1⟩
  rw [hszA] at hS hB1 ⊢
  have hB : Below w.heap.size w w1 := hA.trans (hB1.mono (by omega))
  replace hres := hres.below hB1 (by omega)
  obtain ⟨b2, hb2⟩ : ∃ b2, w.heap.size = b2 := ⟨_, rfl⟩
  obtain ⟨g, hg⟩ : ∃ g, w.heap.size + 1 = g := ⟨_, rfl⟩
  have hgb : w.heap.size ≤ g := by omega
  rw [hg] at hS ⊢
  rw [hb2] at hres
  rw [show (Value.pointer (some ⟨w.heap.size, 0, none⟩)) = .pointer (some ⟨b2, 0, none⟩) by rw [hb2]]
  have hb2w : w.heap.size ≤ b2 := by omega
  have hs1 := hB.size
  clear hA hszA hB1 hb2 hg
  go_wp2_with fail
  refine (spec_l11DrawEvent g _ hS).mono ?_
  rintro e w2 ⟨ge, gp, v, n, rfl, hg0, hg1, hlen, hn1, hn2, hO, hN⟩
  obtain ⟨A, c, rfl⟩ := hO.shape
  replace hO := hO.rebase hs1
  replace hres := blk_draw hres (by decide) hS hN
  replace hB := below_draw hB hs1 hgb hN
  replace hS := hN.1
  have hs2 := hB.size
  clear hN hs1
  have hA2 : Below w2.heap.size w2 (w2.alloc (.cells #[.int .i64 ge, .slice A gp.length c] 26)) := (Below.refl _ _).alloc (Nat.le_refl _) _
  have hbox := Blk.newAt w2 (t := 26) (cs := #[.int .i64 ge, .slice A gp.length c]) _ rfl
  have hne : b2 ≠ w2.heap.size := by have := hres.lt; omega
  go_wp2_with fail
  replace hO := hO.now hA2
  replace hres := hres.now hA2
  replace hB := hB.trans (hA2.mono hs2)
  replace hS := hS.now hA2
  generalize w2.alloc (.cells #[.int .i64 ge, .slice A gp.length c] 26) = wa at *
  obtain ⟨bg, hbg⟩ : ∃ bg, w2.heap.size = bg := ⟨_, rfl⟩
  rw [hbg] at hbox hne ⊢
  clear hA2 hs2 hbg
  have hBd : Below wa.heap.size wa wa.drew := Below.drew (Below.refl _ wa)
  replace hO := hO.now hBd
  replace hres := hres.now hBd
  replace hbox := hbox.now hBd
  replace hB := hB.trans (hBd.mono hB.size)
  replace hS := hS.now hBd
  obtain ⟨e0, e1⟩ := hbox.c2
  have lbg := hbox.lt
  clear hBd
  go_wp2_with fail
  refine wp_region_held_drew (S := fun w' => w'.cell? ⟨bg, 0, none⟩ = some (.int .i64 ge) ∧ w'.cell? ⟨bg, 1, none⟩ = some (.slice A gp.length c)) (by kernel_rfl) ⟨e0, e1⟩ (fun hH => ?_)
  generalize wa.drew = Va at *
  refine wpAnyH_take (i := 0) (oi := { dst := _, op := _, type := _, pos := _, after := _, guard := _ }) (v := ?_) rfl (by kernel_rfl) (by kernel_rfl) (by kernel_rfl) (fun _ _ _ h => h) (Or.inl ⟨by rfl, ?_⟩) hH ?_
  rotate_left
  · intro w9 hSw
    try dsimp only at hSw
    obtain ⟨s0, s1⟩ := hSw
    go_simp
    try with_reducible rfl
  try simp only [Act.put, List.setIfInBounds_toArray, List.set_cons_zero, List.set_cons_succ]
  refine wpAnyH_take (i := 1) (oi := { dst := _, op := _, type := _, pos := _, after := _, guard := _ }) (v := ?_) rfl (by kernel_rfl) (by kernel_rfl) (by kernel_rfl) (fun _ _ _ h => h) (Or.inl ⟨by rfl, ?_⟩) hH ?_
  rotate_left
  · intro w9 hSw
    try dsimp only at hSw
    obtain ⟨s0, s1⟩ := hSw
    go_simp
    try with_reducible rfl
  try simp only [Act.put, List.setIfInBounds_toArray, List.set_cons_zero, List.set_cons_succ]
  refine wpAnyH_take (i := 2) (oi := { dst := _, op := _, type := _, pos := _, after := _, guard := _ }) (v := ?_) rfl (by kernel_rfl) (by kernel_rfl) (by kernel_rfl) (fun _ _ _ h => h) (Or.inl ⟨by rfl, ?_⟩) hH ?_
  rotate_left
  · intro w9 hSw
    try dsimp only at hSw
    obtain ⟨s0, s1⟩ := hSw
    go_simp
    try with_reducible rfl
  try simp only [Act.put, List.setIfInBounds_toArray, List.set_cons_zero, List.set_cons_succ]
  refine wpAnyH_take (i := 3) (oi := { dst := _, op := _, type := _, pos := _, after := _, guard := _ }) (v := ?_) rfl (by kernel_rfl) (by kernel_rfl) (by kernel_rfl) (fun _ _ _ h => h) (Or.inl ⟨by rfl, ?_⟩) hH ?_
  rotate_left
  · intro w9 hSw
    try dsimp only at hSw
    obtain ⟨s0, s1⟩ := hSw
    go_simp
    try with_reducible rfl
  try simp only [Act.put, List.setIfInBounds_toArray, List.set_cons_zero, List.set_cons_succ]
  refine wpAnyH_take (i := 4) (oi := { dst := _, op := _, type := _, pos := _, after := _, guard := _ }) (v := ?_) rfl (by kernel_rfl) (by kernel_rfl) (by kernel_rfl) (fun _ _ _ h => h) (Or.inl ⟨by rfl, ?_⟩) hH ?_
  rotate_left
  · intro w9 hSw
    try dsimp only at hSw
    obtain ⟨s0, s1⟩ := hSw
    go_simp
    try with_reducible rfl
  try simp only [Act.put, List.setIfInBounds_toArray, List.set_cons_zero, List.set_cons_succ]
  refine wpAnyH_ready (rs := [5]) (by kernel_rfl) (by simp) ?_
  refine AllReadyH.cons rfl (fun K hK => ?_) AllReadyH.nil
  go_simp
  go_at_call 112
  refine (spec_l01Next g ge _ hS (by omega)).mono ?_
  rintro e vb ⟨kk, rfl, hkk, hN⟩
  replace hO := own_draw hO (by decide) hS hN
  replace hres := blk_draw hres (by decide) hS hN
  replace hbox := blk_draw hbox (by decide) hS hN
  replace hB := below_draw hB hB.size hgb hN
  replace hS := hN.1
  clear hkk hN e0 e1 lbg
  obtain ⟨e0, e1⟩ := hbox.c2
  refine hK.out _ _ ⟨e0, e1⟩ (fun hH => ?_)
  clear hK K
  try simp only [Act.put, List.setIfInBounds_toArray, List.set_cons_zero, List.set_cons_succ]
  have f0 := hres.frozen 0
  have f1 := hres.frozen 1
  have lb2 := hres.lt
  obtain ⟨r0, r1⟩ := hres.c2
  have hq1 := Lib.hid (own_far (own_far hO (p := ⟨b2, 0, none⟩) (hO.ne_blk hres (by decide)) (.int .i64 ge)) (p := ⟨b2, 1, none⟩) (hO.ne_blk hres (by decide)) (.slice A gp.length c))
  have hq3 := Lib.hid ((hB.setCell (p := ⟨b2, 0, none⟩) hb2w (.int .i64 ge)).setCell (p := ⟨b2, 1, none⟩) hb2w (.slice A gp.length c))
  have hbx := (hbox.far (p := ⟨b2, 0, none⟩) (Ne.symm hne) (.int .i64 ge)).far (p := ⟨b2, 1, none⟩) (Ne.symm hne) (.slice A gp.length c)
  obtain ⟨x0, x1⟩ := hbx.c2
  refine wpAnyH_ready (rs := [6]) (by kernel_rfl) (by simp) ?_
  refine AllReadyH.cons rfl (fun K hK => ?_) AllReadyH.nil
  go_simp
  refine hK.out _ _ ⟨x0, x1⟩ (fun hH => ?_)
  clear hK K
  try simp only [Act.put, List.setIfInBounds_toArray, List.set_cons_zero, List.set_cons_succ]
  refine wpAnyH_take (i := 7) (oi := { dst := _, op := _, type := _, pos := _, after := _, guard := _ }) (v := ?_) rfl (by kernel_rfl) (by kernel_rfl) (by kernel_rfl) (fun _ _ _ h => h) (Or.inl ⟨by rfl, ?_⟩) hH ?_
  rotate_left
  · intro w9 hSw
    try dsimp only at hSw
    obtain ⟨s0, s1⟩ := hSw
    go_simp
    try with_reducible rfl
  try simp only [Act.put, List.setIfInBounds_toArray, List.set_cons_zero, List.set_cons_succ]
  refine wpAnyH_take (i := 8) (oi := { dst := _, op := _, type := _, pos := _, after := _, guard := _ }) (v := ?_) rfl (by kernel_rfl) (by kernel_rfl) (by kernel_rfl) (fun _ _ _ h => h) (Or.inl ⟨by rfl, ?_⟩) hH ?_
  rotate_left
  · intro w9 hSw
    try dsimp only at hSw
    obtain ⟨s0, s1⟩ := hSw
    go_simp
    try with_reducible rfl
  try simp only [Act.put, List.setIfInBounds_toArray, List.set_cons_zero, List.set_cons_succ]
  refine wpAnyH_done (by kernel_rfl) ?_ _
  clear hH hbx x0 x1 e0 e1 hO hres hbox hB hS
  go_wp2
  refine bodyPost_ret (v := .tuple #[.agg #[.int .i64 ge, .slice A gp.length c], .int .i64 n, .int .i64 kk]) (by simp [results, Try.results44, go_sem, r0, r1]) rfl ⟨ge, gp, _, n, kk, rfl, by omega, by omega, by omega, hq1.out, hq3.out⟩
set_option maxHeartbeats 16000000 in
set_option maxRecDepth 100000 in
theorem spec_DrawFireSequence (cv : Value) (bs : List Int) (w : World) (h0 : Lst byteCell 1 w w.heap.size cv bs) (hbv : Hid (∀ b ∈ bs, 0 ≤ b ∧ b ≤ 255)) :
    Calls Try.prog 38 #[cv] w fun e w' => ∃ ge gp v u l, e = .returned (.tuple #[.agg #[.int .i64 ge, v], u]) ∧ 0 ≤ ge ∧ ge ≤ 11 ∧ gp.length ≤ 40 ∧ l.length ≤ 200 ∧ Own Place.cells 4 45 w' w.heap.size v gp ∧ Own intCell 1 2 w' w.heap.size u l ∧ Below w.heap.size w w' := by
  go_enter Try.func38, Try.ntmps38
  go_wp2_with fail
  have hA : Below w.heap.size w (w.alloc (.cells #[.int .i64 0, .slice none 0 0] 26)) := (Below.refl _ _).alloc (Nat.le_refl _) _
  have hres := Blk.newAt w (t := 26) (cs := #[.int .i64 0, .slice none 0 0]) _ rfl
  have hszA : (w.alloc (.cells #[.int .i64 0, .slice none 0 0] 26)).heap.size = w.heap.size + 1 := by simp
  refine (spec_l01From _ bs _ (h0.now hA) hbv).mono ?_
  rintro e w1 ⟨rfl, hS, hB1⟩
  rw [hszA] at hS hB1 ⊢
  have hB : Below w.heap.size w w1 := hA.trans (hB1.mono (by omega))
  replace hres := hres.below hB1 (by omega)
  obtain ⟨b2, hb2⟩ : ∃ b2, w.heap.size = b2 := ⟨_, rfl⟩
  obtain ⟨g, hg⟩ : ∃ g, w.heap.size + 1 = g := ⟨_, rfl⟩
  have hgb : w.heap.size ≤ g := by omega
  rw [hg] at hS ⊢
  rw [hb2] at hres
  rw [show (Value.pointer (some ⟨w.heap.size, 0, none⟩)) = .pointer (some ⟨b2, 0, none⟩) by rw [hb2]]
  have hb2w : w.heap.size ≤ b2 := by omega
  have hs1 := hB.size
  clear hA hszA hB1 hb2 hg
  go_wp2_with fail
  refine (spec_l12Draw g _ hS).mono ?_
  rintro e w2 ⟨ge, gp, v, rfl, hg0, hg1, hlen, hO, hN⟩
  obtain ⟨A, c, rfl⟩ := hO.shape
  replace hO := hO.rebase hs1
  replace hres := blk_draw hres (by decide) hS hN
  replace hB := below_draw hB hs1 hgb hN
  replace hS := hN.1
  have hs2 := hB.size
  clear hN hs1
  have hA2 : Below w2.heap.size w2 ((w2.alloc (.cells #[.int .i64 ge, .slice A gp.length c] 26)).alloc (.cells #[] 2)) := ((Below.refl _ _).alloc (Nat.le_refl _) _).alloc (by simp) _
  have hbox := (Blk.newAt w2 (t := 26) (cs := #[.int .i64 ge, .slice A gp.length c]) _ rfl).alloc (.cells #[] 2)
  have hU : Own intCell 1 2 ((w2.alloc (.cells #[.int .i64 ge, .slice A gp.length c] 26)).alloc (.cells #[] 2)) (g + 1) (.slice (some ⟨w2.heap.size + 1, 0, none⟩) 0 0) ([] : List Int) := by
    have hSl := hS.lt
    have := own_new0 intCell 1 (w2.alloc (.cells #[.int .i64 ge, .slice A gp.length c] 26)) 2 (g + 1) (by simp; omega)
    simpa using this
  replace hO := hO.now hA2
  replace hres := hres.now hA2
  replace hB := hB.trans (hA2.mono hs2)
  replace hS := hS.now hA2
  have l0 := hbox.lt
  obtain ⟨e0, e1⟩ := hbox.c2
  go_wp2_with fail
  clear l0 e0 e1 hA2
  obtain ⟨bg, hbg⟩ : ∃ bg, w2.heap.size = bg := ⟨_, rfl⟩
  rw [hbg] at hbox hU ⊢
  generalize (w2.alloc (.cells #[.int .i64 ge, .slice A gp.length c] 26)).alloc (.cells #[] 2) = wx at *
  refine (spec_l17FirstW _ ge gp _ hO.lst (by omega)).mono ?_
  rintro e w3 ⟨mv, rfl, hM, hB2⟩
  have hne0 : Hid (∀ k, (Value.slice (some ⟨bg + 1, 0, none⟩) 0 0).ownBlock = some k → mv.ownBlock = some k → False) := fun k h1 h2 => by have := (hM.lt k h2).1; have := (hU.lt k h1).2; omega
  have hgs := hS.lt
  replace hM := hM.rebase (show g + 1 ≤ _ from hgs)
  replace hO := hO.now hB2
  replace hU := hU.now hB2
  replace hres := hres.now hB2
  replace hbox := hbox.now hB2
  replace hB := hB.trans (hB2.mono hB.size)
  replace hS := hS.now hB2
  clear hs2 hbg hB2 hgs
  go_wp2_with fail
  refine (spec_l01Next g 12 _ hS (by omega)).mono ?_
  rintro e w4 ⟨nn, rfl, hnn, hN⟩
  replace hO := own_draw hO (by decide) hS hN
  replace hU := own_draw hU (by decide) hS hN
  replace hM := own_draw hM (by decide) hS hN
  replace hres := blk_draw hres (by decide) hS hN
  replace hbox := blk_draw hbox (by decide) hS hN
  replace hB := below_draw hB hB.size hgb hN
  replace hS := hN.1
  clear hN
  have hn5 : nn < 12 := hnn.2.1 (by omega)
  have hn0 := hnn.1
  have hbd0 : Hid (okGraph ge gp = true → ∀ x ∈ firstF gp, -(50 - nn) ≤ x ∧ x ≤ 50 - nn) := by
    intro hok x hx
    obtain ⟨p, hp, rfl⟩ := List.mem_map.1 hx
    have := (okGraph_place hok hp).2.2.2
    omega
  have hml0 := Lib.hid (firstF_len gp)
  generalize firstF gp = m0 at *
  clear hnn
  go_wp2
  go_loopw [6, 7, 8, 9] (fun lv mv kv _ wr => ∃ (l m : List Int) (kk : Int), kv = .int .i64 kk ∧ 0 ≤ kk ∧ kk ≤ 11 ∧ (l.length : Int) ≤ 11 - kk ∧ Hid (m.length = gp.length) ∧ Hid (okGraph ge gp = true → ∀ x ∈ m, -(50 - kk) ≤ x ∧ x ≤ 50 - kk) ∧ Hid (∀ k, lv.ownBlock = some k → mv.ownBlock = some k → False) ∧ Own Place.cells 4 45 wr w.heap.size (.slice A gp.length c) gp ∧ Own intCell 1 2 wr (g + 1) lv l ∧ Own intCell 1 2 wr (g + 1) mv m ∧ Blk wr b2 26 #[.int .i64 0, .slice none 0 0] ∧ Blk wr bg 26 #[.int .i64 ge, .slice A gp.length c] ∧ Below w.heap.size w wr ∧ Src wr g) (fun _ _ kv _ _ => (intOf kv).toNat)
  case atStart => exact ⟨[], m0, nn, rfl, hn0, by omega, by simp; omega, hml0, hbd0, hne0, hO, hU, hM, hres, hbox, hB, hS⟩
  case round =>
    clear hO hU hM hres hbox hB hS hne0 hbd0 hml0 hn5 hn0
    obtain ⟨l, m, kk, rfl, hk0, hk1, hll, hml, hbd, hne, hO, hU, hM, hres, hbox, hB, hS⟩ := hrel
    obtain ⟨Y, cy, rfl⟩ := hU.shape
    obtain ⟨M, cm, rfl⟩ := hM.shape
    by_cases hlt : 0 < kk
    · have l0 := hbox.lt
      obtain ⟨e0, e1⟩ := hbox.c2
      go_wp2_with fail
      clear l0 e0 e1
      refine (spec_IsEventGraph _ ge gp _ hO.lst).mono ?_
      rintro e wa ⟨rfl, hB2⟩
      replace hO := hO.now hB2
      replace hU := hU.now hB2
      replace hM := hM.now hB2
      replace hres := hres.now hB2
      replace hbox := hbox.now hB2
      replace hB := hB.trans (hB2.mono hB.size)
      replace hS := hS.now hB2
      clear hB2
      cases hok : okGraph ge gp
      · clear hok hM hne hbd hlt
        have l0 := hbox.lt
        obtain ⟨e0, e1⟩ := hbox.c2
        go_wp2_with fail
        clear l0 e0 e1
        refine (spec_l01Next g 40 _ hS (by omega)).mono ?_
        rintro e wb ⟨y, rfl, hy, hN⟩
        replace hO := own_draw hO (by decide) hS hN
        replace hU := own_draw hU (by decide) hS hN
        replace hres := blk_draw hres (by decide) hS hN
        replace hbox := blk_draw hbox (by decide) hS hN
        replace hB := below_draw hB hB.size hgb hN
        replace hS := hN.1
        clear hN
        clear hy
        have hs3 := hB.size
        have hSl := hS.lt
        by_cases hy0 : y = 0
        · subst hy0
          have l0 := hbox.lt
          obtain ⟨e0, e1⟩ := hbox.c2
          go_wp2_with fail
          clear l0 e0 e1
          have hZ : Below wb.heap.size wb (wb.alloc (.cells #[.int .i64 (-1), .int .i64 ge] 2)) := (Below.refl _ _).alloc (Nat.le_refl _) _
          replace hO := hO.now hZ
          replace hU := hU.now hZ
          replace hres := hres.now hZ
          replace hbox := hbox.now hZ
          replace hB := hB.trans (hZ.mono hB.size)
          replace hS := hS.now hZ
          clear hZ
          refine (spec_l01Pick g wb.heap.size [-1, ge] _ hS (Blk.newAt _ _ rfl) (by simp) (by simp)).mono ?_
          rintro e wc ⟨pk, hpk, rfl, hN⟩
          replace hO := own_draw hO (by decide) hS hN
          replace hU := own_draw hU (by decide) hS hN
          replace hres := blk_draw hres (by decide) hS hN
          replace hbox := blk_draw hbox (by decide) hS hN
          replace hB := below_draw hB hB.size hgb hN
          replace hS := hN.1
          clear hN
          clear hpk hs3 hSl
          have l0 := hbox.lt
          obtain ⟨e0, e1⟩ := hbox.c2
          have hZ : Below wc.heap.size wc (wc.alloc (.cells #[.int .i64 (pk)] 2)) := (Below.refl _ _).alloc (Nat.le_refl _) _
          have hO9' := Lib.hid (hO.now hZ)
          have hU9' := Lib.hid (hU.now hZ)
          have hr9' := Lib.hid (hres.now hZ)
          have hx9' := Lib.hid (hbox.now hZ)
          have hS9' := Lib.hid (hS.now hZ)
          have hB9' := Lib.hid (hB.trans (hZ.mono hB.size))
          have hLL : Hid ((l ++ [(pk : Int)]).length = l.length + 1) := by show _ = _; simp
          have hlenA : ∀ y : Int, l.length + [y].length ≤ 1099511627776 := by intro y; simp; omega
          have hs3 := hB.size
          have hSl := hS.lt
          clear hZ hO hU hres hbox hB hS
          go_wp2_with (at_builtin; refine wpList_append_lst rfl _ _ 38 rfl intCell 1 intCell_one (by omega) (g + 1) 2 _ 8 Try.underlying38 info_i64 rfl _ _ rfl hU9'.out _ _ _ _ [pk] rfl (lst_new1 _ _ intCell_len _ _ _ _ rfl _ (by simp)) (hlenA _) (by omega) (Nat.le_of_lt (by simp; omega)) ?_; intro v' w9 hO1 hG1 hD1; obtain ⟨V1, cv1, rfl⟩ := own_shape_n hO1 hLL.out; have hO9 := own_kept hO9'.out hG1 (own_ne_own hO9'.out hU9'.out (by decide)); have hr9 := hr9'.out.grown hG1 (fun e => hU9'.out.ne_blk hr9'.out (by decide) e.symm); have hx9 := hx9'.out.grown hG1 (fun e => hU9'.out.ne_blk hx9'.out (by decide) e.symm); have hS9 := hS9'.out.kept hG1 (fun k e => by have := (hU9'.out.lt k e).1; omega); have hB9 := hB9'.out.grown hG1 hB9'.out.size (fun k e => by have := (hU9'.out.lt k e).1; omega); clear l0 e0 e1; have l0 := hx9.lt; obtain ⟨e0, e1⟩ := hx9.c2; have f0 := hr9.frozen 0; have f1 := hr9.frozen 1; have lb2 := hr9.lt; obtain ⟨r0, r1⟩ := hr9.c2)
          have l0 := hx9.lt
          obtain ⟨e0, e1⟩ := hx9.c2
          have f0 := hr9.frozen 0
          have f1 := hr9.frozen 1
          have lb2 := hr9.lt
          obtain ⟨r0, r1⟩ := hr9.c2
          have hq1 := Lib.hid (own_far (own_far hO9 (p := ⟨b2, 0, none⟩) (hO9.ne_blk hr9 (by decide)) (.int .i64 ge)) (p := ⟨b2, 1, none⟩) (hO9.ne_blk hr9 (by decide)) (.slice A gp.length c))
          have hq2 := Lib.hid (Own.rebase (base' := w.heap.size) (own_far (own_far hO1 (p := ⟨b2, 0, none⟩) (hO1.ne_blk hr9 (by decide)) (.int .i64 ge)) (p := ⟨b2, 1, none⟩) (hO1.ne_blk hr9 (by decide)) (.slice A gp.length c)) (by omega))
          have hq3 := Lib.hid ((hB9.setCell (p := ⟨b2, 0, none⟩) hb2w (.int .i64 ge)).setCell (p := ⟨b2, 1, none⟩) hb2w (.slice A gp.length c))
          refine bodyPost_ret (v := .tuple #[.agg #[.int .i64 ge, .slice A gp.length c], _]) (by simp [results, Try.results38, go_sem, r0, r1]) rfl ⟨ge, gp, _, _, _, rfl, by omega, by omega, by omega, by first | omega | (simp; omega), hq1.out, hq2.out, hq3.out⟩
        · have q0 : (y == 0) = false := by simpa using hy0
          by_cases hy1 : y = 1
          · have q1 : (y == 1) = true := by simp [hy1]
            clear hy0 hy1 hO hU hbox hs3 hSl
            have hmk2 := fun q9 (h : q9 ≤ 101) => run_make_lst (P := Try.prog) intCell 1 intCell_len (by omega) (0 : Int) 38 2 _ 8 Try.underlying38 info_i64 rfl .i64 .i64 q9 (by omega) (by omega)
            have hm4 := Lib.hid (fun q9 h w base h2 => (hmk2 q9 h w).2 base h2)
            have hm3 := Lib.hid (fun q9 h w => (hmk2 q9 h w).1)
            clear hmk2
            obtain ⟨wa, rfl⟩ : ∃ wa : World, wa = wb := ⟨_, rfl⟩
            have hBd : Below wa.heap.size wa wa.drew := Below.drew (Below.refl _ wa)
            replace hres := hres.now hBd
            replace hB := hB.trans (hBd.mono hB.size)
            replace hS := hS.now hBd
            clear hBd
            go_wp2_with fail
            refine wp_region_held_drew (S := fun w' => True) (by kernel_rfl) trivial (fun hH => ?_)
            generalize wa.drew = Va at *
            refine wpAnyH_take (i := 2) (oi := { dst := _, op := _, type := _, pos := _, after := _, guard := _ }) (v := ?_) rfl (by kernel_rfl) (by kernel_rfl) (by kernel_rfl) (fun _ _ _ h => h) (Or.inl ⟨by rfl, ?_⟩) hH ?_
            rotate_left
            · intro w9 hSw
              try dsimp only at hSw
              obtain s0 := hSw
              go_simp
              try with_reducible rfl
            try simp only [Act.put, List.setIfInBounds_toArray, List.set_cons_zero, List.set_cons_succ]
            refine wpAnyH_ready (rs := [0, 3]) (by kernel_rfl) (by simp) ?_
            refine AllReadyH.cons rfl (fun K hK => ?_) (AllReadyH.cons rfl (fun K hK => ?_) AllReadyH.nil)
            · go_simp
              have hZ : Below Va.heap.size Va (Va.alloc (.cells #[] 45)) := (Below.refl _ _).alloc (Nat.le_refl _) _
              have hE : Own Place.cells 4 45 (Va.alloc (.cells #[] 45)) w.heap.size (.slice (some ⟨Va.heap.size, 0, none⟩) 0 0) ([] : List Place) := own_new0 Place.cells 4 Va 45 w.heap.size hB.size
              replace hres := hres.now hZ
              replace hB := hB.trans (hZ.mono hB.size)
              replace hS := hS.now hZ
              refine hK.out _ _ trivial (fun hH => ?_)
              clear hK K
              try simp only [Act.put, List.setIfInBounds_toArray, List.set_cons_zero, List.set_cons_succ]
              clear hZ
              obtain ⟨pb, hpb⟩ : ∃ pb, Va.heap.size = pb := ⟨_, rfl⟩
              rw [hpb] at hE ⊢
              clear hpb
              generalize (Va.alloc (.cells #[] 45)) = v1 at *
              refine wpAnyH_take (i := 1) (oi := { dst := _, op := _, type := _, pos := _, after := _, guard := _ }) (v := ?_) rfl (by kernel_rfl) (by kernel_rfl) (by kernel_rfl) (fun _ _ _ h => h) (Or.inl ⟨by rfl, ?_⟩) hH ?_
              rotate_left
              · intro w9 hSw
                try dsimp only at hSw
                obtain s0 := hSw
                go_simp
                try with_reducible rfl
              try simp only [Act.put, List.setIfInBounds_toArray, List.set_cons_zero, List.set_cons_succ]
              refine wpAnyH_ready (rs := [3]) (by kernel_rfl) (by simp) ?_
              refine AllReadyH.cons rfl (fun K hK => ?_) AllReadyH.nil
              go_simp
              go_at_call 112
              refine (spec_l01Next g 2 _ hS (by omega)).mono ?_
              rintro e v2 ⟨y2, rfl, hy2, hN⟩
              replace hres := blk_draw hres (by decide) hS hN
              replace hE := own_draw hE (by decide) hS hN
              replace hB := below_draw hB hB.size hgb hN
              replace hS := hN.1
              obtain ⟨y2, rfl⟩ := Int.eq_ofNat_of_zero_le hy2.1
              have hy2b : y2 < 2 := by have := hy2.2.1 (by omega); omega
              obtain ⟨q9, hq9⟩ : ∃ q9 : Nat, q9 = 100 + y2 := ⟨_, rfl⟩
              have wq : IntKind.i64.wrap (100 + (y2 : Int)) = (q9 : Int) := (IntWalk.i64_in _ (by omega)).trans (by omega)
              have hq92 : q9 ≤ 101 := by omega
              have hm3' := hm3.out q9 hq92
              clear hq9
              clear hN hy2
              refine hK.out _ _ trivial (fun hH => ?_)
              clear hK K
              try simp only [Act.put, List.setIfInBounds_toArray, List.set_cons_zero, List.set_cons_succ]
              refine wpAnyH_take (i := 4) (oi := { dst := _, op := _, type := _, pos := _, after := _, guard := _ }) (v := ?_) rfl (by kernel_rfl) (by kernel_rfl) (by kernel_rfl) (fun _ _ _ h => h) (Or.inl ⟨by rfl, ?_⟩) hH ?_
              rotate_left
              · intro w9 hSw
                try dsimp only at hSw
                obtain s0 := hSw
                go_simp
                try with_reducible rfl
              try simp only [Act.put, List.setIfInBounds_toArray, List.set_cons_zero, List.set_cons_succ]
              refine wpAnyH_ready (rs := [5, 6]) (by kernel_rfl) (by simp) ?_
              refine AllReadyH.cons rfl (fun K hK => ?_) (AllReadyH.cons rfl (fun K hK => ?_) AllReadyH.nil)
              · go_simp
                have hL := hm4.out q9 hq92 v2 w.heap.size hB.size
                have hZ : Below v2.heap.size v2 (v2.alloc (.cells (madeCells (intCell 0).toArray (q9 * 1)) 2)) := (Below.refl _ _).alloc (Nat.le_refl _) _
                replace hres := hres.now hZ
                replace hE := hE.now hZ
                replace hB := hB.trans (hZ.mono hB.size)
                replace hS := hS.now hZ
                simp only [Nat.mul_one] at hL hZ hres hE hS hB
                try simp only [Nat.mul_one]
                refine hK.out _ _ trivial (fun hH => ?_)
                clear hK K
                try simp only [Act.put, List.setIfInBounds_toArray, List.set_cons_zero, List.set_cons_succ]
                clear hZ
                obtain ⟨lb, hlb⟩ : ∃ lb, v2.heap.size = lb := ⟨_, rfl⟩
                rw [hlb] at hL ⊢
                clear hlb
                generalize (v2.alloc (.cells (madeCells (intCell 0).toArray (q9)) 2)) = v3 at *
                refine wpAnyH_ready (rs := [6]) (by kernel_rfl) (by simp) ?_
                refine AllReadyH.cons rfl (fun K hK => ?_) AllReadyH.nil
                have f0 := hres.frozen 0
                have f1 := hres.frozen 1
                have lb2 := hres.lt
                obtain ⟨r0, r1⟩ := hres.c2
                have hst : Blk ((v3.setCell ⟨b2, 0, none⟩ (.int .i64 1)).setCell ⟨b2, 1, none⟩ (.slice (some ⟨pb, 0, none⟩) 0 0)) b2 26 #[.int .i64 1, .slice (some ⟨pb, 0, none⟩) 0 0] := by simpa using (hres.set_ 0 (.int .i64 1)).set_ 1 (.slice (some ⟨pb, 0, none⟩) 0 0)
                replace hE : Own Place.cells 4 45 ((v3.setCell ⟨b2, 0, none⟩ (.int .i64 1)).setCell ⟨b2, 1, none⟩ (.slice (some ⟨pb, 0, none⟩) 0 0)) w.heap.size (.slice (some ⟨pb, 0, none⟩) 0 0) ([] : List Place) := own_far (own_far hE (p := ⟨b2, 0, none⟩) (hE.ne_blk hres (by decide)) (.int .i64 1)) (p := ⟨b2, 1, none⟩) (hE.ne_blk hres (by decide)) (.slice (some ⟨pb, 0, none⟩) 0 0)
                replace hL : Own intCell 1 2 ((v3.setCell ⟨b2, 0, none⟩ (.int .i64 1)).setCell ⟨b2, 1, none⟩ (.slice (some ⟨pb, 0, none⟩) 0 0)) w.heap.size (.slice (some ⟨lb, 0, none⟩) q9 q9) (List.replicate q9 0) := own_far (own_far hL (p := ⟨b2, 0, none⟩) (hL.ne_blk hres (by decide)) (.int .i64 1)) (p := ⟨b2, 1, none⟩) (hL.ne_blk hres (by decide)) (.slice (some ⟨pb, 0, none⟩) 0 0)
                replace hB := (hB.setCell (p := ⟨b2, 0, none⟩) hb2w (.int .i64 1)).setCell (p := ⟨b2, 1, none⟩) hb2w (.slice (some ⟨pb, 0, none⟩) 0 0)
                clear hS
                go_simp
                refine hK.out _ _ trivial (fun hH => ?_)
                clear hK K
                try simp only [Act.put, List.setIfInBounds_toArray, List.set_cons_zero, List.set_cons_succ]
                clear f0 f1 lb2 r0 r1 hres
                generalize ((v3.setCell ⟨b2, 0, none⟩ (.int .i64 1)).setCell ⟨b2, 1, none⟩ (.slice (some ⟨pb, 0, none⟩) 0 0)) = v4 at *
                refine wpAnyH_take (i := 7) (oi := { dst := _, op := _, type := _, pos := _, after := _, guard := _ }) (v := ?_) rfl (by kernel_rfl) (by kernel_rfl) (by kernel_rfl) (fun _ _ _ h => h) (Or.inl ⟨by rfl, ?_⟩) hH ?_
                rotate_left
                · intro w9 hSw
                  try dsimp only at hSw
                  obtain s0 := hSw
                  go_simp
                  try with_reducible rfl
                try simp only [Act.put, List.setIfInBounds_toArray, List.set_cons_zero, List.set_cons_succ]
                refine wpAnyH_done (by kernel_rfl) ?_ _
                clear hH
                obtain ⟨r0, r1⟩ := hst.c2
                go_wp2
                refine bodyPost_ret (v := .tuple #[.agg #[.int .i64 1, .slice (some ⟨pb, 0, none⟩) 0 0], _]) (by simp [results, Try.results38, go_sem, r0, r1]) rfl ⟨1, [], _, _, (List.replicate q9 0), rfl, by omega, by omega, by simp, by simp <;> omega, hE, hL, hB⟩
              · have f0 := hres.frozen 0
                have f1 := hres.frozen 1
                have lb2 := hres.lt
                obtain ⟨r0, r1⟩ := hres.c2
                have hst : Blk ((v2.setCell ⟨b2, 0, none⟩ (.int .i64 1)).setCell ⟨b2, 1, none⟩ (.slice (some ⟨pb, 0, none⟩) 0 0)) b2 26 #[.int .i64 1, .slice (some ⟨pb, 0, none⟩) 0 0] := by simpa using (hres.set_ 0 (.int .i64 1)).set_ 1 (.slice (some ⟨pb, 0, none⟩) 0 0)
                replace hE : Own Place.cells 4 45 ((v2.setCell ⟨b2, 0, none⟩ (.int .i64 1)).setCell ⟨b2, 1, none⟩ (.slice (some ⟨pb, 0, none⟩) 0 0)) w.heap.size (.slice (some ⟨pb, 0, none⟩) 0 0) ([] : List Place) := own_far (own_far hE (p := ⟨b2, 0, none⟩) (hE.ne_blk hres (by decide)) (.int .i64 1)) (p := ⟨b2, 1, none⟩) (hE.ne_blk hres (by decide)) (.slice (some ⟨pb, 0, none⟩) 0 0)
                replace hB := (hB.setCell (p := ⟨b2, 0, none⟩) hb2w (.int .i64 1)).setCell (p := ⟨b2, 1, none⟩) hb2w (.slice (some ⟨pb, 0, none⟩) 0 0)
                clear hS
                go_simp
                refine hK.out _ _ trivial (fun hH => ?_)
                clear hK K
                try simp only [Act.put, List.setIfInBounds_toArray, List.set_cons_zero, List.set_cons_succ]
                clear f0 f1 lb2 r0 r1 hres
                generalize ((v2.setCell ⟨b2, 0, none⟩ (.int .i64 1)).setCell ⟨b2, 1, none⟩ (.slice (some ⟨pb, 0, none⟩) 0 0)) = v5 at *
                refine wpAnyH_ready (rs := [5]) (by kernel_rfl) (by simp) ?_
                refine AllReadyH.cons rfl (fun K hK => ?_) AllReadyH.nil
                go_simp
                have hL := hm4.out q9 hq92 v5 w.heap.size hB.size
                have hZ : Below v5.heap.size v5 (v5.alloc (.cells (madeCells (intCell 0).toArray (q9 * 1)) 2)) := (Below.refl _ _).alloc (Nat.le_refl _) _
                replace hE := hE.now hZ
                replace hst := hst.now hZ
                replace hB := hB.trans (hZ.mono hB.size)
                simp only [Nat.mul_one] at hL hZ hE hst hB
                try simp only [Nat.mul_one]
                refine hK.out _ _ trivial (fun hH => ?_)
                clear hK K
                try simp only [Act.put, List.setIfInBounds_toArray, List.set_cons_zero, List.set_cons_succ]
                clear hZ
                obtain ⟨lb, hlb⟩ : ∃ lb, v5.heap.size = lb := ⟨_, rfl⟩
                rw [hlb] at hL ⊢
                clear hlb
                generalize (v5.alloc (.cells (madeCells (intCell 0).toArray (q9)) 2)) = v6 at *
                refine wpAnyH_take (i := 7) (oi := { dst := _, op := _, type := _, pos := _, after := _, guard := _ }) (v := ?_) rfl (by kernel_rfl) (by kernel_rfl) (by kernel_rfl) (fun _ _ _ h => h) (Or.inl ⟨by rfl, ?_⟩) hH ?_
                rotate_left
                · intro w9 hSw
                  try dsimp only at hSw
                  obtain s0 := hSw
                  go_simp
                  try with_reducible rfl
                try simp only [Act.put, List.setIfInBounds_toArray, List.set_cons_zero, List.set_cons_succ]
                refine wpAnyH_done (by kernel_rfl) ?_ _
                clear hH
                obtain ⟨r0, r1⟩ := hst.c2
                go_wp2
                refine bodyPost_ret (v := .tuple #[.agg #[.int .i64 1, .slice (some ⟨pb, 0, none⟩) 0 0], _]) (by simp [results, Try.results38, go_sem, r0, r1]) rfl ⟨1, [], _, _, (List.replicate q9 0), rfl, by omega, by omega, by simp, by simp <;> omega, hE, hL, hB⟩
            · go_simp
              go_at_call 112
              refine (spec_l01Next g 2 _ hS (by omega)).mono ?_
              rintro e v7 ⟨y2, rfl, hy2, hN⟩
              replace hres := blk_draw hres (by decide) hS hN
              replace hB := below_draw hB hB.size hgb hN
              replace hS := hN.1
              obtain ⟨y2, rfl⟩ := Int.eq_ofNat_of_zero_le hy2.1
              have hy2b : y2 < 2 := by have := hy2.2.1 (by omega); omega
              obtain ⟨q9, hq9⟩ : ∃ q9 : Nat, q9 = 100 + y2 := ⟨_, rfl⟩
              have wq : IntKind.i64.wrap (100 + (y2 : Int)) = (q9 : Int) := (IntWalk.i64_in _ (by omega)).trans (by omega)
              have hq92 : q9 ≤ 101 := by omega
              have hm3' := hm3.out q9 hq92
              clear hq9
              clear hN hy2
              refine hK.out _ _ trivial (fun hH => ?_)
              clear hK K
              try simp only [Act.put, List.setIfInBounds_toArray, List.set_cons_zero, List.set_cons_succ]
              refine wpAnyH_take (i := 4) (oi := { dst := _, op := _, type := _, pos := _, after := _, guard := _ }) (v := ?_) rfl (by kernel_rfl) (by kernel_rfl) (by kernel_rfl) (fun _ _ _ h => h) (Or.inl ⟨by rfl, ?_⟩) hH ?_
              rotate_left
              · intro w9 hSw
                try dsimp only at hSw
                obtain s0 := hSw
                go_simp
                try with_reducible rfl
              try simp only [Act.put, List.setIfInBounds_toArray, List.set_cons_zero, List.set_cons_succ]
              refine wpAnyH_ready (rs := [0, 5]) (by kernel_rfl) (by simp) ?_
              refine AllReadyH.cons rfl (fun K hK => ?_) (AllReadyH.cons rfl (fun K hK => ?_) AllReadyH.nil)
              · go_simp
                have hZ : Below v7.heap.size v7 (v7.alloc (.cells #[] 45)) := (Below.refl _ _).alloc (Nat.le_refl _) _
                have hE : Own Place.cells 4 45 (v7.alloc (.cells #[] 45)) w.heap.size (.slice (some ⟨v7.heap.size, 0, none⟩) 0 0) ([] : List Place) := own_new0 Place.cells 4 v7 45 w.heap.size hB.size
                replace hres := hres.now hZ
                replace hB := hB.trans (hZ.mono hB.size)
                replace hS := hS.now hZ
                refine hK.out _ _ trivial (fun hH => ?_)
                clear hK K
                try simp only [Act.put, List.setIfInBounds_toArray, List.set_cons_zero, List.set_cons_succ]
                clear hZ
                obtain ⟨pb, hpb⟩ : ∃ pb, v7.heap.size = pb := ⟨_, rfl⟩
                rw [hpb] at hE ⊢
                clear hpb
                generalize (v7.alloc (.cells #[] 45)) = v8 at *
                refine wpAnyH_take (i := 1) (oi := { dst := _, op := _, type := _, pos := _, after := _, guard := _ }) (v := ?_) rfl (by kernel_rfl) (by kernel_rfl) (by kernel_rfl) (fun _ _ _ h => h) (Or.inl ⟨by rfl, ?_⟩) hH ?_
                rotate_left
                · intro w9 hSw
                  try dsimp only at hSw
                  obtain s0 := hSw
                  go_simp
                  try with_reducible rfl
                try simp only [Act.put, List.setIfInBounds_toArray, List.set_cons_zero, List.set_cons_succ]
                refine wpAnyH_ready (rs := [5, 6]) (by kernel_rfl) (by simp) ?_
                refine AllReadyH.cons rfl (fun K hK => ?_) (AllReadyH.cons rfl (fun K hK => ?_) AllReadyH.nil)
                · go_simp
                  have hL := hm4.out q9 hq92 v8 w.heap.size hB.size
                  have hZ : Below v8.heap.size v8 (v8.alloc (.cells (madeCells (intCell 0).toArray (q9 * 1)) 2)) := (Below.refl _ _).alloc (Nat.le_refl _) _
                  replace hres := hres.now hZ
                  replace hE := hE.now hZ
                  replace hB := hB.trans (hZ.mono hB.size)
                  replace hS := hS.now hZ
                  simp only [Nat.mul_one] at hL hZ hres hE hS hB
                  try simp only [Nat.mul_one]
                  refine hK.out _ _ trivial (fun hH => ?_)
                  clear hK K
                  try simp only [Act.put, List.setIfInBounds_toArray, List.set_cons_zero, List.set_cons_succ]
                  clear hZ
                  obtain ⟨lb, hlb⟩ : ∃ lb, v8.heap.size = lb := ⟨_, rfl⟩
                  rw [hlb] at hL ⊢
                  clear hlb
                  generalize (v8.alloc (.cells (madeCells (intCell 0).toArray (q9)) 2)) = v9 at *
                  refine wpAnyH_ready (rs := [6]) (by kernel_rfl) (by simp) ?_
                  refine AllReadyH.cons rfl (fun K hK => ?_) AllReadyH.nil
                  have f0 := hres.frozen 0
                  have f1 := hres.frozen 1
                  have lb2 := hres.lt
                  obtain ⟨r0, r1⟩ := hres.c2
                  have hst : Blk ((v9.setCell ⟨b2, 0, none⟩ (.int .i64 1)).setCell ⟨b2, 1, none⟩ (.slice (some ⟨pb, 0, none⟩) 0 0)) b2 26 #[.int .i64 1, .slice (some ⟨pb, 0, none⟩) 0 0] := by simpa using (hres.set_ 0 (.int .i64 1)).set_ 1 (.slice (some ⟨pb, 0, none⟩) 0 0)
                  replace hE : Own Place.cells 4 45 ((v9.setCell ⟨b2, 0, none⟩ (.int .i64 1)).setCell ⟨b2, 1, none⟩ (.slice (some ⟨pb, 0, none⟩) 0 0)) w.heap.size (.slice (some ⟨pb, 0, none⟩) 0 0) ([] : List Place) := own_far (own_far hE (p := ⟨b2, 0, none⟩) (hE.ne_blk hres (by decide)) (.int .i64 1)) (p := ⟨b2, 1, none⟩) (hE.ne_blk hres (by decide)) (.slice (some ⟨pb, 0, none⟩) 0 0)
                  replace hL : Own intCell 1 2 ((v9.setCell ⟨b2, 0, none⟩ (.int .i64 1)).setCell ⟨b2, 1, none⟩ (.slice (some ⟨pb, 0, none⟩) 0 0)) w.heap.size (.slice (some ⟨lb, 0, none⟩) q9 q9) (List.replicate q9 0) := own_far (own_far hL (p := ⟨b2, 0, none⟩) (hL.ne_blk hres (by decide)) (.int .i64 1)) (p := ⟨b2, 1, none⟩) (hL.ne_blk hres (by decide)) (.slice (some ⟨pb, 0, none⟩) 0 0)
                  replace hB := (hB.setCell (p := ⟨b2, 0, none⟩) hb2w (.int .i64 1)).setCell (p := ⟨b2, 1, none⟩) hb2w (.slice (some ⟨pb, 0, none⟩) 0 0)
                  clear hS
                  go_simp
                  refine hK.out _ _ trivial (fun hH => ?_)
                  clear hK K
                  try simp only [Act.put, List.setIfInBounds_toArray, List.set_cons_zero, List.set_cons_succ]
                  clear f0 f1 lb2 r0 r1 hres
                  generalize ((v9.setCell ⟨b2, 0, none⟩ (.int .i64 1)).setCell ⟨b2, 1, none⟩ (.slice (some ⟨pb, 0, none⟩) 0 0)) = v10 at *
                  refine wpAnyH_take (i := 7) (oi := { dst := _, op := _, type := _, pos := _, after := _, guard := _ }) (v := ?_) rfl (by kernel_rfl) (by kernel_rfl) (by kernel_rfl) (fun _ _ _ h => h) (Or.inl ⟨by rfl, ?_⟩) hH ?_
                  rotate_left
                  · intro w9 hSw
                    try dsimp only at hSw
                    obtain s0 := hSw
                    go_simp
                    try with_reducible rfl
                  try simp only [Act.put, List.setIfInBounds_toArray, List.set_cons_zero, List.set_cons_succ]
                  refine wpAnyH_done (by kernel_rfl) ?_ _
                  clear hH
                  obtain ⟨r0, r1⟩ := hst.c2
                  go_wp2
                  refine bodyPost_ret (v := .tuple #[.agg #[.int .i64 1, .slice (some ⟨pb, 0, none⟩) 0 0], _]) (by simp [results, Try.results38, go_sem, r0, r1]) rfl ⟨1, [], _, _, (List.replicate q9 0), rfl, by omega, by omega, by simp, by simp <;> omega, hE, hL, hB⟩
                · have f0 := hres.frozen 0
                  have f1 := hres.frozen 1
                  have lb2 := hres.lt
                  obtain ⟨r0, r1⟩ := hres.c2
                  have hst : Blk ((v8.setCell ⟨b2, 0, none⟩ (.int .i64 1)).setCell ⟨b2, 1, none⟩ (.slice (some ⟨pb, 0, none⟩) 0 0)) b2 26 #[.int .i64 1, .slice (some ⟨pb, 0, none⟩) 0 0] := by simpa using (hres.set_ 0 (.int .i64 1)).set_ 1 (.slice (some ⟨pb, 0, none⟩) 0 0)
                  replace hE : Own Place.cells 4 45 ((v8.setCell ⟨b2, 0, none⟩ (.int .i64 1)).setCell ⟨b2, 1, none⟩ (.slice (some ⟨pb, 0, none⟩) 0 0)) w.heap.size (.slice (some ⟨pb, 0, none⟩) 0 0) ([] : List Place) := own_far (own_far hE (p := ⟨b2, 0, none⟩) (hE.ne_blk hres (by decide)) (.int .i64 1)) (p := ⟨b2, 1, none⟩) (hE.ne_blk hres (by decide)) (.slice (some ⟨pb, 0, none⟩) 0 0)
                  replace hB := (hB.setCell (p := ⟨b2, 0, none⟩) hb2w (.int .i64 1)).setCell (p := ⟨b2, 1, none⟩) hb2w (.slice (some ⟨pb, 0, none⟩) 0 0)
                  clear hS
                  go_simp
                  refine hK.out _ _ trivial (fun hH => ?_)
                  clear hK K
                  try simp only [Act.put, List.setIfInBounds_toArray, List.set_cons_zero, List.set_cons_succ]
                  clear f0 f1 lb2 r0 r1 hres
                  generalize ((v8.setCell ⟨b2, 0, none⟩ (.int .i64 1)).setCell ⟨b2, 1, none⟩ (.slice (some ⟨pb, 0, none⟩) 0 0)) = v11 at *
                  refine wpAnyH_ready (rs := [5]) (by kernel_rfl) (by simp) ?_
                  refine AllReadyH.cons rfl (fun K hK => ?_) AllReadyH.nil
                  go_simp
                  have hL := hm4.out q9 hq92 v11 w.heap.size hB.size
                  have hZ : Below v11.heap.size v11 (v11.alloc (.cells (madeCells (intCell 0).toArray (q9 * 1)) 2)) := (Below.refl _ _).alloc (Nat.le_refl _) _
                  replace hE := hE.now hZ
                  replace hst := hst.now hZ
                  replace hB := hB.trans (hZ.mono hB.size)
                  simp only [Nat.mul_one] at hL hZ hE hst hB
                  try simp only [Nat.mul_one]
                  refine hK.out _ _ trivial (fun hH => ?_)
                  clear hK K
                  try simp only [Act.put, List.setIfInBounds_toArray, List.set_cons_zero, List.set_cons_succ]
                  clear hZ
                  obtain ⟨lb, hlb⟩ : ∃ lb, v11.heap.size = lb := ⟨_, rfl⟩
                  rw [hlb] at hL ⊢
                  clear hlb
                  generalize (v11.alloc (.cells (madeCells (intCell 0).toArray (q9)) 2)) = v12 at *
                  refine wpAnyH_take (i := 7) (oi := { dst := _, op := _, type := _, pos := _, after := _, guard := _ }) (v := ?_) rfl (by kernel_rfl) (by kernel_rfl) (by kernel_rfl) (fun _ _ _ h => h) (Or.inl ⟨by rfl, ?_⟩) hH ?_
                  rotate_left
                  · intro w9 hSw
                    try dsimp only at hSw
                    obtain s0 := hSw
                    go_simp
                    try with_reducible rfl
                  try simp only [Act.put, List.setIfInBounds_toArray, List.set_cons_zero, List.set_cons_succ]
                  refine wpAnyH_done (by kernel_rfl) ?_ _
                  clear hH
                  obtain ⟨r0, r1⟩ := hst.c2
                  go_wp2
                  refine bodyPost_ret (v := .tuple #[.agg #[.int .i64 1, .slice (some ⟨pb, 0, none⟩) 0 0], _]) (by simp [results, Try.results38, go_sem, r0, r1]) rfl ⟨1, [], _, _, (List.replicate q9 0), rfl, by omega, by omega, by simp, by simp <;> omega, hE, hL, hB⟩
              · go_simp
                have hL := hm4.out q9 hq92 v7 w.heap.size hB.size
                have hZ : Below v7.heap.size v7 (v7.alloc (.cells (madeCells (intCell 0).toArray (q9 * 1)) 2)) := (Below.refl _ _).alloc (Nat.le_refl _) _
                replace hres := hres.now hZ
                replace hB := hB.trans (hZ.mono hB.size)
                replace hS := hS.now hZ
                simp only [Nat.mul_one] at hL hZ hres hS hB
                try simp only [Nat.mul_one]
                refine hK.out _ _ trivial (fun hH => ?_)
                clear hK K
                try simp only [Act.put, List.setIfInBounds_toArray, List.set_cons_zero, List.set_cons_succ]
                clear hZ
                obtain ⟨lb, hlb⟩ : ∃ lb, v7.heap.size = lb := ⟨_, rfl⟩
                rw [hlb] at hL ⊢
                clear hlb
                generalize (v7.alloc (.cells (madeCells (intCell 0).toArray (q9)) 2)) = v13 at *
                refine wpAnyH_ready (rs := [0]) (by kernel_rfl) (by simp) ?_
                refine AllReadyH.cons rfl (fun K hK => ?_) AllReadyH.nil
                go_simp
                have hZ : Below v13.heap.size v13 (v13.alloc (.cells #[] 45)) := (Below.refl _ _).alloc (Nat.le_refl _) _
                have hE : Own Place.cells 4 45 (v13.alloc (.cells #[] 45)) w.heap.size (.slice (some ⟨v13.heap.size, 0, none⟩) 0 0) ([] : List Place) := own_new0 Place.cells 4 v13 45 w.heap.size hB.size
                replace hres := hres.now hZ
                replace hL := hL.now hZ
                replace hB := hB.trans (hZ.mono hB.size)
                replace hS := hS.now hZ
                refine hK.out _ _ trivial (fun hH => ?_)
                clear hK K
                try simp only [Act.put, List.setIfInBounds_toArray, List.set_cons_zero, List.set_cons_succ]
                clear hZ
                obtain ⟨pb, hpb⟩ : ∃ pb, v13.heap.size = pb := ⟨_, rfl⟩
                rw [hpb] at hE ⊢
                clear hpb
                generalize (v13.alloc (.cells #[] 45)) = v14 at *
                refine wpAnyH_take (i := 1) (oi := { dst := _, op := _, type := _, pos := _, after := _, guard := _ }) (v := ?_) rfl (by kernel_rfl) (by kernel_rfl) (by kernel_rfl) (fun _ _ _ h => h) (Or.inl ⟨by rfl, ?_⟩) hH ?_
                rotate_left
                · intro w9 hSw
                  try dsimp only at hSw
                  obtain s0 := hSw
                  go_simp
                  try with_reducible rfl
                try simp only [Act.put, List.setIfInBounds_toArray, List.set_cons_zero, List.set_cons_succ]
                refine wpAnyH_ready (rs := [6]) (by kernel_rfl) (by simp) ?_
                refine AllReadyH.cons rfl (fun K hK => ?_) AllReadyH.nil
                have f0 := hres.frozen 0
                have f1 := hres.frozen 1
                have lb2 := hres.lt
                obtain ⟨r0, r1⟩ := hres.c2
                have hst : Blk ((v14.setCell ⟨b2, 0, none⟩ (.int .i64 1)).setCell ⟨b2, 1, none⟩ (.slice (some ⟨pb, 0, none⟩) 0 0)) b2 26 #[.int .i64 1, .slice (some ⟨pb, 0, none⟩) 0 0] := by simpa using (hres.set_ 0 (.int .i64 1)).set_ 1 (.slice (some ⟨pb, 0, none⟩) 0 0)
                replace hL : Own intCell 1 2 ((v14.setCell ⟨b2, 0, none⟩ (.int .i64 1)).setCell ⟨b2, 1, none⟩ (.slice (some ⟨pb, 0, none⟩) 0 0)) w.heap.size (.slice (some ⟨lb, 0, none⟩) q9 q9) (List.replicate q9 0) := own_far (own_far hL (p := ⟨b2, 0, none⟩) (hL.ne_blk hres (by decide)) (.int .i64 1)) (p := ⟨b2, 1, none⟩) (hL.ne_blk hres (by decide)) (.slice (some ⟨pb, 0, none⟩) 0 0)
                replace hE : Own Place.cells 4 45 ((v14.setCell ⟨b2, 0, none⟩ (.int .i64 1)).setCell ⟨b2, 1, none⟩ (.slice (some ⟨pb, 0, none⟩) 0 0)) w.heap.size (.slice (some ⟨pb, 0, none⟩) 0 0) ([] : List Place) := own_far (own_far hE (p := ⟨b2, 0, none⟩) (hE.ne_blk hres (by decide)) (.int .i64 1)) (p := ⟨b2, 1, none⟩) (hE.ne_blk hres (by decide)) (.slice (some ⟨pb, 0, none⟩) 0 0)
                replace hB := (hB.setCell (p := ⟨b2, 0, none⟩) hb2w (.int .i64 1)).setCell (p := ⟨b2, 1, none⟩) hb2w (.slice (some ⟨pb, 0, none⟩) 0 0)
                clear hS
                go_simp
                refine hK.out _ _ trivial (fun hH => ?_)
                clear hK K
                try simp only [Act.put, List.setIfInBounds_toArray, List.set_cons_zero, List.set_cons_succ]
                clear f0 f1 lb2 r0 r1 hres
                generalize ((v14.setCell ⟨b2, 0, none⟩ (.int .i64 1)).setCell ⟨b2, 1, none⟩ (.slice (some ⟨pb, 0, none⟩) 0 0)) = v15 at *
                refine wpAnyH_take (i := 7) (oi := { dst := _, op := _, type := _, pos := _, after := _, guard := _ }) (v := ?_) rfl (by kernel_rfl) (by kernel_rfl) (by kernel_rfl) (fun _ _ _ h => h) (Or.inl ⟨by rfl, ?_⟩) hH ?_
                rotate_left
                · intro w9 hSw
                  try dsimp only at hSw
                  obtain s0 := hSw
                  go_simp
                  try with_reducible rfl
                try simp only [Act.put, List.setIfInBounds_toArray, List.set_cons_zero, List.set_cons_succ]
                refine wpAnyH_done (by kernel_rfl) ?_ _
                clear hH
                obtain ⟨r0, r1⟩ := hst.c2
                go_wp2
                refine bodyPost_ret (v := .tuple #[.agg #[.int .i64 1, .slice (some ⟨pb, 0, none⟩) 0 0], _]) (by simp [results, Try.results38, go_sem, r0, r1]) rfl ⟨1, [], _, _, (List.replicate q9 0), rfl, by omega, by omega, by simp, by simp <;> omega, hE, hL, hB⟩
          · have q1 : (y == 1) = false := by simpa using hy1
            by_cases hy2 : y = 2
            · have q2 : (y == 2) = true := by simp [hy2]
              clear hy0 hy1 hy2 hO hU hbox hs3 hSl
              have hmk2 := run_make_lst (P := Try.prog) intCell 1 intCell_len (by omega) (0 : Int) 38 2 _ 8 Try.underlying38 info_i64 rfl .i64 .i64 100 (by omega) (by omega)
              have hm4 := Lib.hid (fun w base h2 => (hmk2 w).2 base h2)
              have hm3 := fun w => (hmk2 w).1
              simp only [show ((100 : Nat) : Int) = 100 from rfl] at hm3
              clear hmk2
              obtain ⟨wa, rfl⟩ : ∃ wa : World, wa = wb := ⟨_, rfl⟩
              have hBd : Below wa.heap.size wa wa.drew := Below.drew (Below.refl _ wa)
              replace hres := hres.now hBd
              replace hB := hB.trans (hBd.mono hB.size)
              replace hS := hS.now hBd
              clear hBd
              go_wp2_with fail
              refine wp_region_held_drew (S := fun w' => True) (by kernel_rfl) trivial (fun hH => ?_)
              generalize wa.drew = Va at *
              refine wpAnyH_take (i := 0) (oi := { dst := _, op := _, type := _, pos := _, after := _, guard := _ }) (v := ?_) rfl (by kernel_rfl) (by kernel_rfl) (by kernel_rfl) (fun _ _ _ h => h) (Or.inl ⟨by rfl, ?_⟩) hH ?_
              rotate_left
              · intro w9 hSw
                try dsimp only at hSw
                obtain s0 := hSw
                go_simp
                try with_reducible rfl
              try simp only [Act.put, List.setIfInBounds_toArray, List.set_cons_zero, List.set_cons_succ]
              refine wpAnyH_ready (rs := [1, 5]) (by kernel_rfl) (by simp) ?_
              refine AllReadyH.cons rfl (fun K hK => ?_) (AllReadyH.cons rfl (fun K hK => ?_) AllReadyH.nil)
              · go_simp
                go_at_call 112
                refine (spec_l01Next g 2 _ hS (by omega)).mono ?_
                rintro e v1 ⟨y2, rfl, hy2, hN⟩
                replace hres := blk_draw hres (by decide) hS hN
                replace hB := below_draw hB hB.size hgb hN
                replace hS := hN.1
                obtain ⟨y2, rfl⟩ := Int.eq_ofNat_of_zero_le hy2.1
                have hy2b : y2 < 2 := by have := hy2.2.1 (by omega); omega
                clear hN hy2
                refine hK.out _ _ trivial (fun hH => ?_)
                clear hK K
                try simp only [Act.put, List.setIfInBounds_toArray, List.set_cons_zero, List.set_cons_succ]
                refine wpAnyH_take (i := 2) (oi := { dst := _, op := _, type := _, pos := _, after := _, guard := _ }) (v := ?_) rfl (by kernel_rfl) (by kernel_rfl) (by kernel_rfl) (fun _ _ _ h => h) (Or.inl ⟨by rfl, ?_⟩) hH ?_
                rotate_left
                · intro w9 hSw
                  try dsimp only at hSw
                  obtain s0 := hSw
                  go_simp
                  try with_reducible rfl
                try simp only [Act.put, List.setIfInBounds_toArray, List.set_cons_zero, List.set_cons_succ]
                refine wpAnyH_ready (rs := [3, 5]) (by kernel_rfl) (by simp) ?_
                refine AllReadyH.cons rfl (fun K hK => ?_) (AllReadyH.cons rfl (fun K hK => ?_) AllReadyH.nil)
                · go_simp
                  have hZ : Below v1.heap.size v1 (v1.alloc (.cells #[.int .i64 0, .int .i64 1, .int .i64 0, .int .i64 (y2 : Nat)] 45)) := (Below.refl _ _).alloc (Nat.le_refl _) _
                  have hE : Own Place.cells 4 45 (v1.alloc (.cells #[.int .i64 0, .int .i64 1, .int .i64 0, .int .i64 (y2 : Nat)] 45)) w.heap.size (.slice (some ⟨v1.heap.size, 0, none⟩) 1 1) ([⟨0, 1, 0, (y2 : Int)⟩] : List Place) := own_new1T Place.cells 4 Place.cells_len v1 45 w.heap.size hB.size ⟨0, 1, 0, (y2 : Int)⟩ (by decide)
                  replace hres := hres.now hZ
                  replace hB := hB.trans (hZ.mono hB.size)
                  replace hS := hS.now hZ
                  refine hK.out _ _ trivial (fun hH => ?_)
                  clear hK K
                  try simp only [Act.put, List.setIfInBounds_toArray, List.set_cons_zero, List.set_cons_succ]
                  clear hZ
                  obtain ⟨pb, hpb⟩ : ∃ pb, v1.heap.size = pb := ⟨_, rfl⟩
                  rw [hpb] at hE ⊢
                  clear hpb
                  generalize (v1.alloc (.cells #[.int .i64 0, .int .i64 1, .int .i64 0, .int .i64 (y2 : Nat)] 45)) = v2 at *
                  refine wpAnyH_take (i := 4) (oi := { dst := _, op := _, type := _, pos := _, after := _, guard := _ }) (v := ?_) rfl (by kernel_rfl) (by kernel_rfl) (by kernel_rfl) (fun _ _ _ h => h) (Or.inl ⟨by rfl, ?_⟩) hH ?_
                  rotate_left
                  · intro w9 hSw
                    try dsimp only at hSw
                    obtain s0 := hSw
                    go_simp
                    try with_reducible rfl
                  try simp only [Act.put, List.setIfInBounds_toArray, List.set_cons_zero, List.set_cons_succ]
                  refine wpAnyH_ready (rs := [5, 6]) (by kernel_rfl) (by simp) ?_
                  refine AllReadyH.cons rfl (fun K hK => ?_) (AllReadyH.cons rfl (fun K hK => ?_) AllReadyH.nil)
                  · go_simp
                    have hL := hm4.out v2 w.heap.size hB.size
                    have hZ : Below v2.heap.size v2 (v2.alloc (.cells (madeCells (intCell 0).toArray (100 * 1)) 2)) := (Below.refl _ _).alloc (Nat.le_refl _) _
                    replace hres := hres.now hZ
                    replace hE := hE.now hZ
                    replace hB := hB.trans (hZ.mono hB.size)
                    replace hS := hS.now hZ
                    simp only [Nat.mul_one] at hL hZ hres hE hS hB
                    try simp only [Nat.mul_one]
                    refine hK.out _ _ trivial (fun hH => ?_)
                    clear hK K
                    try simp only [Act.put, List.setIfInBounds_toArray, List.set_cons_zero, List.set_cons_succ]
                    clear hZ
                    obtain ⟨lb, hlb⟩ : ∃ lb, v2.heap.size = lb := ⟨_, rfl⟩
                    rw [hlb] at hL ⊢
                    clear hlb
                    generalize (v2.alloc (.cells (madeCells (intCell 0).toArray (100)) 2)) = v3 at *
                    refine wpAnyH_ready (rs := [6]) (by kernel_rfl) (by simp) ?_
                    refine AllReadyH.cons rfl (fun K hK => ?_) AllReadyH.nil
                    have f0 := hres.frozen 0
                    have f1 := hres.frozen 1
                    have lb2 := hres.lt
                    obtain ⟨r0, r1⟩ := hres.c2
                    have hst : Blk ((v3.setCell ⟨b2, 0, none⟩ (.int .i64 2)).setCell ⟨b2, 1, none⟩ (.slice (some ⟨pb, 0, none⟩) 1 1)) b2 26 #[.int .i64 2, .slice (some ⟨pb, 0, none⟩) 1 1] := by simpa using (hres.set_ 0 (.int .i64 2)).set_ 1 (.slice (some ⟨pb, 0, none⟩) 1 1)
                    replace hE : Own Place.cells 4 45 ((v3.setCell ⟨b2, 0, none⟩ (.int .i64 2)).setCell ⟨b2, 1, none⟩ (.slice (some ⟨pb, 0, none⟩) 1 1)) w.heap.size (.slice (some ⟨pb, 0, none⟩) 1 1) ([⟨0, 1, 0, (y2 : Int)⟩] : List Place) := own_far (own_far hE (p := ⟨b2, 0, none⟩) (hE.ne_blk hres (by decide)) (.int .i64 2)) (p := ⟨b2, 1, none⟩) (hE.ne_blk hres (by decide)) (.slice (some ⟨pb, 0, none⟩) 1 1)
                    replace hL : Own intCell 1 2 ((v3.setCell ⟨b2, 0, none⟩ (.int .i64 2)).setCell ⟨b2, 1, none⟩ (.slice (some ⟨pb, 0, none⟩) 1 1)) w.heap.size (.slice (some ⟨lb, 0, none⟩) 100 100) (List.replicate 100 0) := own_far (own_far hL (p := ⟨b2, 0, none⟩) (hL.ne_blk hres (by decide)) (.int .i64 2)) (p := ⟨b2, 1, none⟩) (hL.ne_blk hres (by decide)) (.slice (some ⟨pb, 0, none⟩) 1 1)
                    replace hB := (hB.setCell (p := ⟨b2, 0, none⟩) hb2w (.int .i64 2)).setCell (p := ⟨b2, 1, none⟩) hb2w (.slice (some ⟨pb, 0, none⟩) 1 1)
                    clear hS
                    go_simp
                    refine hK.out _ _ trivial (fun hH => ?_)
                    clear hK K
                    try simp only [Act.put, List.setIfInBounds_toArray, List.set_cons_zero, List.set_cons_succ]
                    clear f0 f1 lb2 r0 r1 hres
                    generalize ((v3.setCell ⟨b2, 0, none⟩ (.int .i64 2)).setCell ⟨b2, 1, none⟩ (.slice (some ⟨pb, 0, none⟩) 1 1)) = v4 at *
                    refine wpAnyH_take (i := 7) (oi := { dst := _, op := _, type := _, pos := _, after := _, guard := _ }) (v := ?_) rfl (by kernel_rfl) (by kernel_rfl) (by kernel_rfl) (fun _ _ _ h => h) (Or.inl ⟨by rfl, ?_⟩) hH ?_
                    rotate_left
                    · intro w9 hSw
                      try dsimp only at hSw
                      obtain s0 := hSw
                      go_simp
                      try with_reducible rfl
                    try simp only [Act.put, List.setIfInBounds_toArray, List.set_cons_zero, List.set_cons_succ]
                    refine wpAnyH_done (by kernel_rfl) ?_ _
                    clear hH
                    obtain ⟨r0, r1⟩ := hst.c2
                    go_wp2
                    refine bodyPost_ret (v := .tuple #[.agg #[.int .i64 2, .slice (some ⟨pb, 0, none⟩) 1 1], _]) (by simp [results, Try.results38, go_sem, r0, r1]) rfl ⟨2, [⟨0, 1, 0, (y2 : Int)⟩], _, _, (List.replicate 100 0), rfl, by omega, by omega, by simp, by simp <;> omega, hE, hL, hB⟩
                  · have f0 := hres.frozen 0
                    have f1 := hres.frozen 1
                    have lb2 := hres.lt
                    obtain ⟨r0, r1⟩ := hres.c2
                    have hst : Blk ((v2.setCell ⟨b2, 0, none⟩ (.int .i64 2)).setCell ⟨b2, 1, none⟩ (.slice (some ⟨pb, 0, none⟩) 1 1)) b2 26 #[.int .i64 2, .slice (some ⟨pb, 0, none⟩) 1 1] := by simpa using (hres.set_ 0 (.int .i64 2)).set_ 1 (.slice (some ⟨pb, 0, none⟩) 1 1)
                    replace hE : Own Place.cells 4 45 ((v2.setCell ⟨b2, 0, none⟩ (.int .i64 2)).setCell ⟨b2, 1, none⟩ (.slice (some ⟨pb, 0, none⟩) 1 1)) w.heap.size (.slice (some ⟨pb, 0, none⟩) 1 1) ([⟨0, 1, 0, (y2 : Int)⟩] : List Place) := own_far (own_far hE (p := ⟨b2, 0, none⟩) (hE.ne_blk hres (by decide)) (.int .i64 2)) (p := ⟨b2, 1, none⟩) (hE.ne_blk hres (by decide)) (.slice (some ⟨pb, 0, none⟩) 1 1)
                    replace hB := (hB.setCell (p := ⟨b2, 0, none⟩) hb2w (.int .i64 2)).setCell (p := ⟨b2, 1, none⟩) hb2w (.slice (some ⟨pb, 0, none⟩) 1 1)
                    clear hS
                    go_simp
                    refine hK.out _ _ trivial (fun hH => ?_)
                    clear hK K
                    try simp only [Act.put, List.setIfInBounds_toArray, List.set_cons_zero, List.set_cons_succ]
                    clear f0 f1 lb2 r0 r1 hres
                    generalize ((v2.setCell ⟨b2, 0, none⟩ (.int .i64 2)).setCell ⟨b2, 1, none⟩ (.slice (some ⟨pb, 0, none⟩) 1 1)) = v5 at *
                    refine wpAnyH_ready (rs := [5]) (by kernel_rfl) (by simp) ?_
                    refine AllReadyH.cons rfl (fun K hK => ?_) AllReadyH.nil
                    go_simp
                    have hL := hm4.out v5 w.heap.size hB.size
                    have hZ : Below v5.heap.size v5 (v5.alloc (.cells (madeCells (intCell 0).toArray (100 * 1)) 2)) := (Below.refl _ _).alloc (Nat.le_refl _) _
                    replace hE := hE.now hZ
                    replace hst := hst.now hZ
                    replace hB := hB.trans (hZ.mono hB.size)
                    simp only [Nat.mul_one] at hL hZ hE hst hB
                    try simp only [Nat.mul_one]
                    refine hK.out _ _ trivial (fun hH => ?_)
                    clear hK K
                    try simp only [Act.put, List.setIfInBounds_toArray, List.set_cons_zero, List.set_cons_succ]
                    clear hZ
                    obtain ⟨lb, hlb⟩ : ∃ lb, v5.heap.size = lb := ⟨_, rfl⟩
                    rw [hlb] at hL ⊢
                    clear hlb
                    generalize (v5.alloc (.cells (madeCells (intCell 0).toArray (100)) 2)) = v6 at *
                    refine wpAnyH_take (i := 7) (oi := { dst := _, op := _, type := _, pos := _, after := _, guard := _ }) (v := ?_) rfl (by kernel_rfl) (by kernel_rfl) (by kernel_rfl) (fun _ _ _ h => h) (Or.inl ⟨by rfl, ?_⟩) hH ?_
                    rotate_left
                    · intro w9 hSw
                      try dsimp only at hSw
                      obtain s0 := hSw
                      go_simp
                      try with_reducible rfl
                    try simp only [Act.put, List.setIfInBounds_toArray, List.set_cons_zero, List.set_cons_succ]
                    refine wpAnyH_done (by kernel_rfl) ?_ _
                    clear hH
                    obtain ⟨r0, r1⟩ := hst.c2
                    go_wp2
                    refine bodyPost_ret (v := .tuple #[.agg #[.int .i64 2, .slice (some ⟨pb, 0, none⟩) 1 1], _]) (by simp [results, Try.results38, go_sem, r0, r1]) rfl ⟨2, [⟨0, 1, 0, (y2 : Int)⟩], _, _, (List.replicate 100 0), rfl, by omega, by omega, by simp, by simp <;> omega, hE, hL, hB⟩
                · go_simp
                  have hL := hm4.out v1 w.heap.size hB.size
                  have hZ : Below v1.heap.size v1 (v1.alloc (.cells (madeCells (intCell 0).toArray (100 * 1)) 2)) := (Below.refl _ _).alloc (Nat.le_refl _) _
                  replace hres := hres.now hZ
                  replace hB := hB.trans (hZ.mono hB.size)
                  replace hS := hS.now hZ
                  simp only [Nat.mul_one] at hL hZ hres hS hB
                  try simp only [Nat.mul_one]
                  refine hK.out _ _ trivial (fun hH => ?_)
                  clear hK K
                  try simp only [Act.put, List.setIfInBounds_toArray, List.set_cons_zero, List.set_cons_succ]
                  clear hZ
                  obtain ⟨lb, hlb⟩ : ∃ lb, v1.heap.size = lb := ⟨_, rfl⟩
                  rw [hlb] at hL ⊢
                  clear hlb
                  generalize (v1.alloc (.cells (madeCells (intCell 0).toArray (100)) 2)) = v7 at *
                  refine wpAnyH_ready (rs := [3]) (by kernel_rfl) (by simp) ?_
                  refine AllReadyH.cons rfl (fun K hK => ?_) AllReadyH.nil
                  go_simp
                  have hZ : Below v7.heap.size v7 (v7.alloc (.cells #[.int .i64 0, .int .i64 1, .int .i64 0, .int .i64 (y2 : Nat)] 45)) := (Below.refl _ _).alloc (Nat.le_refl _) _
                  have hE : Own Place.cells 4 45 (v7.alloc (.cells #[.int .i64 0, .int .i64 1, .int .i64 0, .int .i64 (y2 : Nat)] 45)) w.heap.size (.slice (some ⟨v7.heap.size, 0, none⟩) 1 1) ([⟨0, 1, 0, (y2 : Int)⟩] : List Place) := own_new1T Place.cells 4 Place.cells_len v7 45 w.heap.size hB.size ⟨0, 1, 0, (y2 : Int)⟩ (by decide)
                  replace hres := hres.now hZ
                  replace hL := hL.now hZ
                  replace hB := hB.trans (hZ.mono hB.size)
                  replace hS := hS.now hZ
                  refine hK.out _ _ trivial (fun hH => ?_)
                  clear hK K
                  try simp only [Act.put, List.setIfInBounds_toArray, List.set_cons_zero, List.set_cons_succ]
                  clear hZ
                  obtain ⟨pb, hpb⟩ : ∃ pb, v7.heap.size = pb := ⟨_, rfl⟩
                  rw [hpb] at hE ⊢
                  clear hpb
                  generalize (v7.alloc (.cells #[.int .i64 0, .int .i64 1, .int .i64 0, .int .i64 (y2 : Nat)] 45)) = v8 at *
                  refine wpAnyH_take (i := 4) (oi := { dst := _, op := _, type := _, pos := _, after := _, guard := _ }) (v := ?_) rfl (by kernel_rfl) (by kernel_rfl) (by kernel_rfl) (fun _ _ _ h => h) (Or.inl ⟨by rfl, ?_⟩) hH ?_
                  rotate_left
                  · intro w9 hSw
                    try dsimp only at hSw
                    obtain s0 := hSw
                    go_simp
                    try with_reducible rfl
                  try simp only [Act.put, List.setIfInBounds_toArray, List.set_cons_zero, List.set_cons_succ]
                  refine wpAnyH_ready (rs := [6]) (by kernel_rfl) (by simp) ?_
                  refine AllReadyH.cons rfl (fun K hK => ?_) AllReadyH.nil
                  have f0 := hres.frozen 0
                  have f1 := hres.frozen 1
                  have lb2 := hres.lt
                  obtain ⟨r0, r1⟩ := hres.c2
                  have hst : Blk ((v8.setCell ⟨b2, 0, none⟩ (.int .i64 2)).setCell ⟨b2, 1, none⟩ (.slice (some ⟨pb, 0, none⟩) 1 1)) b2 26 #[.int .i64 2, .slice (some ⟨pb, 0, none⟩) 1 1] := by simpa using (hres.set_ 0 (.int .i64 2)).set_ 1 (.slice (some ⟨pb, 0, none⟩) 1 1)
                  replace hL : Own intCell 1 2 ((v8.setCell ⟨b2, 0, none⟩ (.int .i64 2)).setCell ⟨b2, 1, none⟩ (.slice (some ⟨pb, 0, none⟩) 1 1)) w.heap.size (.slice (some ⟨lb, 0, none⟩) 100 100) (List.replicate 100 0) := own_far (own_far hL (p := ⟨b2, 0, none⟩) (hL.ne_blk hres (by decide)) (.int .i64 2)) (p := ⟨b2, 1, none⟩) (hL.ne_blk hres (by decide)) (.slice (some ⟨pb, 0, none⟩) 1 1)
                  replace hE : Own Place.cells 4 45 ((v8.setCell ⟨b2, 0, none⟩ (.int .i64 2)).setCell ⟨b2, 1, none⟩ (.slice (some ⟨pb, 0, none⟩) 1 1)) w.heap.size (.slice (some ⟨pb, 0, none⟩) 1 1) ([⟨0, 1, 0, (y2 : Int)⟩] : List Place) := own_far (own_far hE (p := ⟨b2, 0, none⟩) (hE.ne_blk hres (by decide)) (.int .i64 2)) (p := ⟨b2, 1, none⟩) (hE.ne_blk hres (by decide)) (.slice (some ⟨pb, 0, none⟩) 1 1)
                  replace hB := (hB.setCell (p := ⟨b2, 0, none⟩) hb2w (.int .i64 2)).setCell (p := ⟨b2, 1, none⟩) hb2w (.slice (some ⟨pb, 0, none⟩) 1 1)
                  clear hS
                  go_simp
                  refine hK.out _ _ trivial (fun hH => ?_)
                  clear hK K
                  try simp only [Act.put, List.setIfInBounds_toArray, List.set_cons_zero, List.set_cons_succ]
                  clear f0 f1 lb2 r0 r1 hres
                  generalize ((v8.setCell ⟨b2, 0, none⟩ (.int .i64 2)).setCell ⟨b2, 1, none⟩ (.slice (some ⟨pb, 0, none⟩) 1 1)) = v9 at *
                  refine wpAnyH_take (i := 7) (oi := { dst := _, op := _, type := _, pos := _, after := _, guard := _ }) (v := ?_) rfl (by kernel_rfl) (by kernel_rfl) (by kernel_rfl) (fun _ _ _ h => h) (Or.inl ⟨by rfl, ?_⟩) hH ?_
                  rotate_left
                  · intro w9 hSw
                    try dsimp only at hSw
                    obtain s0 := hSw
                    go_simp
                    try with_reducible rfl
                  try simp only [Act.put, List.setIfInBounds_toArray, List.set_cons_zero, List.set_cons_succ]
                  refine wpAnyH_done (by kernel_rfl) ?_ _
                  clear hH
                  obtain ⟨r0, r1⟩ := hst.c2
                  go_wp2
                  refine bodyPost_ret (v := .tuple #[.agg #[.int .i64 2, .slice (some ⟨pb, 0, none⟩) 1 1], _]) (by simp [results, Try.results38, go_sem, r0, r1]) rfl ⟨2, [⟨0, 1, 0, (y2 : Int)⟩], _, _, (List.replicate 100 0), rfl, by omega, by omega, by simp, by simp <;> omega, hE, hL, hB⟩
              · go_simp
                have hL := hm4.out Va w.heap.size hB.size
                have hZ : Below Va.heap.size Va (Va.alloc (.cells (madeCells (intCell 0).toArray (100 * 1)) 2)) := (Below.refl _ _).alloc (Nat.le_refl _) _
                replace hres := hres.now hZ
                replace hB := hB.trans (hZ.mono hB.size)
                replace hS := hS.now hZ
                simp only [Nat.mul_one] at hL hZ hres hS hB
                try simp only [Nat.mul_one]
                refine hK.out _ _ trivial (fun hH => ?_)
                clear hK K
                try simp only [Act.put, List.setIfInBounds_toArray, List.set_cons_zero, List.set_cons_succ]
                clear hZ
                obtain ⟨lb, hlb⟩ : ∃ lb, Va.heap.size = lb := ⟨_, rfl⟩
                rw [hlb] at hL ⊢
                clear hlb
                generalize (Va.alloc (.cells (madeCells (intCell 0).toArray (100)) 2)) = v10 at *
                refine wpAnyH_ready (rs := [1]) (by kernel_rfl) (by simp) ?_
                refine AllReadyH.cons rfl (fun K hK => ?_) AllReadyH.nil
                go_simp
                go_at_call 112
                refine (spec_l01Next g 2 _ hS (by omega)).mono ?_
                rintro e v11 ⟨y2, rfl, hy2, hN⟩
                replace hres := blk_draw hres (by decide) hS hN
                replace hL := own_draw hL (by decide) hS hN
                replace hB := below_draw hB hB.size hgb hN
                replace hS := hN.1
                obtain ⟨y2, rfl⟩ := Int.eq_ofNat_of_zero_le hy2.1
                have hy2b : y2 < 2 := by have := hy2.2.1 (by omega); omega
                clear hN hy2
                refine hK.out _ _ trivial (fun hH => ?_)
                clear hK K
                try simp only [Act.put, List.setIfInBounds_toArray, List.set_cons_zero, List.set_cons_succ]
                refine wpAnyH_take (i := 2) (oi := { dst := _, op := _, type := _, pos := _, after := _, guard := _ }) (v := ?_) rfl (by kernel_rfl) (by kernel_rfl) (by kernel_rfl) (fun _ _ _ h => h) (Or.inl ⟨by rfl, ?_⟩) hH ?_
                rotate_left
                · intro w9 hSw
                  try dsimp only at hSw
                  obtain s0 := hSw
                  go_simp
                  try with_reducible rfl
                try simp only [Act.put, List.setIfInBounds_toArray, List.set_cons_zero, List.set_cons_succ]
                refine wpAnyH_ready (rs := [3]) (by kernel_rfl) (by simp) ?_
                refine AllReadyH.cons rfl (fun K hK => ?_) AllReadyH.nil
                go_simp
                have hZ : Below v11.heap.size v11 (v11.alloc (.cells #[.int .i64 0, .int .i64 1, .int .i64 0, .int .i64 (y2 : Nat)] 45)) := (Below.refl _ _).alloc (Nat.le_refl _) _
                have hE : Own Place.cells 4 45 (v11.alloc (.cells #[.int .i64 0, .int .i64 1, .int .i64 0, .int .i64 (y2 : Nat)] 45)) w.heap.size (.slice (some ⟨v11.heap.size, 0, none⟩) 1 1) ([⟨0, 1, 0, (y2 : Int)⟩] : List Place) := own_new1T Place.cells 4 Place.cells_len v11 45 w.heap.size hB.size ⟨0, 1, 0, (y2 : Int)⟩ (by decide)
                replace hres := hres.now hZ
                replace hL := hL.now hZ
                replace hB := hB.trans (hZ.mono hB.size)
                replace hS := hS.now hZ
                refine hK.out _ _ trivial (fun hH => ?_)
                clear hK K
                try simp only [Act.put, List.setIfInBounds_toArray, List.set_cons_zero, List.set_cons_succ]
                clear hZ
                obtain ⟨pb, hpb⟩ : ∃ pb, v11.heap.size = pb := ⟨_, rfl⟩
                rw [hpb] at hE ⊢
                clear hpb
                generalize (v11.alloc (.cells #[.int .i64 0, .int .i64 1, .int .i64 0, .int .i64 (y2 : Nat)] 45)) = v12 at *
                refine wpAnyH_take (i := 4) (oi := { dst := _, op := _, type := _, pos := _, after := _, guard := _ }) (v := ?_) rfl (by kernel_rfl) (by kernel_rfl) (by kernel_rfl) (fun _ _ _ h => h) (Or.inl ⟨by rfl, ?_⟩) hH ?_
                rotate_left
                · intro w9 hSw
                  try dsimp only at hSw
                  obtain s0 := hSw
                  go_simp
                  try with_reducible rfl
                try simp only [Act.put, List.setIfInBounds_toArray, List.set_cons_zero, List.set_cons_succ]
                refine wpAnyH_ready (rs := [6]) (by kernel_rfl) (by simp) ?_
                refine AllReadyH.cons rfl (fun K hK => ?_) AllReadyH.nil
                have f0 := hres.frozen 0
                have f1 := hres.frozen 1
                have lb2 := hres.lt
                obtain ⟨r0, r1⟩ := hres.c2
                have hst : Blk ((v12.setCell ⟨b2, 0, none⟩ (.int .i64 2)).setCell ⟨b2, 1, none⟩ (.slice (some ⟨pb, 0, none⟩) 1 1)) b2 26 #[.int .i64 2, .slice (some ⟨pb, 0, none⟩) 1 1] := by simpa using (hres.set_ 0 (.int .i64 2)).set_ 1 (.slice (some ⟨pb, 0, none⟩) 1 1)
                replace hL : Own intCell 1 2 ((v12.setCell ⟨b2, 0, none⟩ (.int .i64 2)).setCell ⟨b2, 1, none⟩ (.slice (some ⟨pb, 0, none⟩) 1 1)) w.heap.size (.slice (some ⟨lb, 0, none⟩) 100 100) (List.replicate 100 0) := own_far (own_far hL (p := ⟨b2, 0, none⟩) (hL.ne_blk hres (by decide)) (.int .i64 2)) (p := ⟨b2, 1, none⟩) (hL.ne_blk hres (by decide)) (.slice (some ⟨pb, 0, none⟩) 1 1)
                replace hE : Own Place.cells 4 45 ((v12.setCell ⟨b2, 0, none⟩ (.int .i64 2)).setCell ⟨b2, 1, none⟩ (.slice (some ⟨pb, 0, none⟩) 1 1)) w.heap.size (.slice (some ⟨pb, 0, none⟩) 1 1) ([⟨0, 1, 0, (y2 : Int)⟩] : List Place) := own_far (own_far hE (p := ⟨b2, 0, none⟩) (hE.ne_blk hres (by decide)) (.int .i64 2)) (p := ⟨b2, 1, none⟩) (hE.ne_blk hres (by decide)) (.slice (some ⟨pb, 0, none⟩) 1 1)
                replace hB := (hB.setCell (p := ⟨b2, 0, none⟩) hb2w (.int .i64 2)).setCell (p := ⟨b2, 1, none⟩) hb2w (.slice (some ⟨pb, 0, none⟩) 1 1)
                clear hS
                go_simp
                refine hK.out _ _ trivial (fun hH => ?_)
                clear hK K
                try simp only [Act.put, List.setIfInBounds_toArray, List.set_cons_zero, List.set_cons_succ]
                clear f0 f1 lb2 r0 r1 hres
                generalize ((v12.setCell ⟨b2, 0, none⟩ (.int .i64 2)).setCell ⟨b2, 1, none⟩ (.slice (some ⟨pb, 0, none⟩) 1 1)) = v13 at *
                refine wpAnyH_take (i := 7) (oi := { dst := _, op := _, type := _, pos := _, after := _, guard := _ }) (v := ?_) rfl (by kernel_rfl) (by kernel_rfl) (by kernel_rfl) (fun _ _ _ h => h) (Or.inl ⟨by rfl, ?_⟩) hH ?_
                rotate_left
                · intro w9 hSw
                  try dsimp only at hSw
                  obtain s0 := hSw
                  go_simp
                  try with_reducible rfl
                try simp only [Act.put, List.setIfInBounds_toArray, List.set_cons_zero, List.set_cons_succ]
                refine wpAnyH_done (by kernel_rfl) ?_ _
                clear hH
                obtain ⟨r0, r1⟩ := hst.c2
                go_wp2
                refine bodyPost_ret (v := .tuple #[.agg #[.int .i64 2, .slice (some ⟨pb, 0, none⟩) 1 1], _]) (by simp [results, Try.results38, go_sem, r0, r1]) rfl ⟨2, [⟨0, 1, 0, (y2 : Int)⟩], _, _, (List.replicate 100 0), rfl, by omega, by omega, by simp, by simp <;> omega, hE, hL, hB⟩
            · have q2 : (y == 2) = false := by simpa using hy2
              clear hy0 hy1 hy2
              have l0 := hbox.lt
              obtain ⟨e0, e1⟩ := hbox.c2
              have f0 := hres.frozen 0
              have f1 := hres.frozen 1
              have lb2 := hres.lt
              obtain ⟨r0, r1⟩ := hres.c2
              have hq1 := Lib.hid (own_far (own_far hO (p := ⟨b2, 0, none⟩) (hO.ne_blk hres (by decide)) (.int .i64 ge)) (p := ⟨b2, 1, none⟩) (hO.ne_blk hres (by decide)) (.slice A gp.length c))
              have hq2 := Lib.hid (Own.rebase (base' := w.heap.size) (own_far (own_far hU (p := ⟨b2, 0, none⟩) (hU.ne_blk hres (by decide)) (.int .i64 ge)) (p := ⟨b2, 1, none⟩) (hU.ne_blk hres (by decide)) (.slice A gp.length c)) (by omega))
              have hq3 := Lib.hid ((hB.setCell (p := ⟨b2, 0, none⟩) hb2w (.int .i64 ge)).setCell (p := ⟨b2, 1, none⟩) hb2w (.slice A gp.length c))
              go_wp2
              refine bodyPost_ret (v := .tuple #[.agg #[.int .i64 ge, .slice A gp.length c], _]) (by simp [results, Try.results38, go_sem, r0, r1]) rfl ⟨ge, gp, _, _, _, rfl, by omega, by omega, by omega, by first | omega | (simp; omega), hq1.out, hq2.out, hq3.out⟩
      · obtain ⟨g1, g2⟩ := okGraph_ev hok
        have hgl := okGraph_len hok
        obtain ⟨n, rfl⟩ := Int.eq_ofNat_of_zero_le hg0
        have hokH := Lib.hid hok
        have hmb := hbd.out hok
        have hmlH : Hid (m.length = gp.length) := hml
        have hmb2 : Hid (∀ x ∈ m, -1000 ≤ x ∧ x ≤ 1000) := fun x hx => by have := hmb x hx; omega
        have hmbH := Lib.hid hmb
        have wk : IntKind.i64.wrap (kk - 1) = kk - 1 := IntWalk.i64_in _ (by omega)
        clear hok hbd hmb
        have l0 := hbox.lt
        obtain ⟨e0, e1⟩ := hbox.c2
        go_wp2_with fail
        clear l0 e0 e1
        refine (spec_l01Next g (n : Int) _ hS (by omega)).mono ?_
        rintro e wb ⟨ev, rfl, hev, hN⟩
        replace hO := own_draw hO (by decide) hS hN
        replace hU := own_draw hU (by decide) hS hN
        replace hM := own_draw hM (by decide) hS hN
        replace hres := blk_draw hres (by decide) hS hN
        replace hbox := blk_draw hbox (by decide) hS hN
        replace hB := below_draw hB hB.size hgb hN
        replace hS := hN.1
        clear hN
        clear hev
        have l0 := hbox.lt
        obtain ⟨e0, e1⟩ := hbox.c2
        go_wp2_with fail
        clear l0 e0 e1
        refine (spec_l17EnabledW _ (n : Int) gp _ m ev _ hO.lst hM.lst hml.out).mono ?_
        rintro e wc ⟨b, rfl, hB2⟩
        replace hO := hO.now hB2
        replace hU := hU.now hB2
        replace hM := hM.now hB2
        replace hres := hres.now hB2
        replace hbox := hbox.now hB2
        replace hB := hB.trans (hB2.mono hB.size)
        replace hS := hS.now hB2
        clear hB2
        cases b
        · have l0 := hbox.lt
          obtain ⟨e0, e1⟩ := hbox.c2
          go_wp2_with fail
          clear l0 e0 e1
          refine (spec_l01Next g 12 _ hS (by omega)).mono ?_
          rintro e wd ⟨y, rfl, hy, hN⟩
          replace hO := own_draw hO (by decide) hS hN
          replace hU := own_draw hU (by decide) hS hN
          replace hM := own_draw hM (by decide) hS hN
          replace hres := blk_draw hres (by decide) hS hN
          replace hbox := blk_draw hbox (by decide) hS hN
          replace hB := below_draw hB hB.size hgb hN
          replace hS := hN.1
          clear hN
          clear hy
          by_cases hy0 : y = 0
          · have q0 : (y == 0) = true := by simp [hy0]
            clear hy0
            have l0 := hbox.lt
            obtain ⟨e0, e1⟩ := hbox.c2
            have hZ : Below wd.heap.size wd (wd.alloc (.cells #[.int .i64 (ev)] 2)) := (Below.refl _ _).alloc (Nat.le_refl _) _
            have hO9' := Lib.hid (hO.now hZ)
            have hU9' := Lib.hid (hU.now hZ)
            have hr9' := Lib.hid (hres.now hZ)
            have hx9' := Lib.hid (hbox.now hZ)
            have hS9' := Lib.hid (hS.now hZ)
            have hB9' := Lib.hid (hB.trans (hZ.mono hB.size))
            have hM9' := Lib.hid (hM.now hZ)
            have hneH := hne
            have hLL : Hid ((l ++ [(ev : Int)]).length = l.length + 1) := by show _ = _; simp
            have hlenA : ∀ y : Int, l.length + [y].length ≤ 1099511627776 := by intro y; simp; omega
            have hs3 := hB.size
            have hSl := hS.lt
            clear hZ hO hU hres hbox hB hS hM hne
            go_wp2_with (at_builtin; refine wpList_append_lst rfl _ _ 38 rfl intCell 1 intCell_one (by omega) (g + 1) 2 _ 8 Try.underlying38 info_i64 rfl _ _ rfl hU9'.out _ _ _ _ [ev] rfl (lst_new1 _ _ intCell_len _ _ _ _ rfl _ (by simp)) (hlenA _) (by omega) (Nat.le_of_lt (by simp; omega)) ?_; intro v' w9 hO1 hG1 hD1; obtain ⟨V1, cv1, rfl⟩ := own_shape_n hO1 hLL.out; have hO9 := own_kept hO9'.out hG1 (own_ne_own hO9'.out hU9'.out (by decide)); have hr9 := hr9'.out.grown hG1 (fun e => hU9'.out.ne_blk hr9'.out (by decide) e.symm); have hx9 := hx9'.out.grown hG1 (fun e => hU9'.out.ne_blk hx9'.out (by decide) e.symm); have hS9 := hS9'.out.kept hG1 (fun k e => by have := (hU9'.out.lt k e).1; omega); have hB9 := hB9'.out.grown hG1 hB9'.out.size (fun k e => by have := (hU9'.out.lt k e).1; omega); have hM9 := own_kept hM9'.out hG1 (fun k a b => hneH.out k b a); have hne9 : Hid (∀ k, (Value.slice V1 (l.length + 1) cv1).ownBlock = some k → (Value.slice M m.length cm).ownBlock = some k → False) := (fun k a b => by rcases hD1 with h | h; exact hneH.out k (h.symm.trans a) b; rw [h] at a; injection a with a; have := (hM9'.out.lt k b).2; omega); clear l0 e0 e1; have l0 := hx9.lt; obtain ⟨e0, e1⟩ := hx9.c2)
            clear l0 e0 e1 hG1 hD1 hO9' hU9' hr9' hx9' hS9' hB9' hM9' hneH
            refine (spec_l17FireW _ n gp _ m ev _ hO9.lst hM9.lst hokH hmlH hmb2 hgl).mono ?_
            rintro e w10 ⟨y9, rfl, hM2, hB10⟩
            have hne2 : Hid (∀ k, (Value.slice V1 (l.length + 1) cv1).ownBlock = some k → y9.ownBlock = some k → False) := fun k a b => by have := (hM2.lt k b).1; have := (hO1.lt k a).2; omega
            have hM3 := hM2.rebase (show g + 1 ≤ _ from hS9.lt)
            have hO1b := hO1.now hB10
            have hO9b := hO9.now hB10
            have hr9b := hr9.now hB10
            have hx9b := hx9.now hB10
            have hS9b := hS9.now hB10
            have hB9b := hB9.trans (hB10.mono hB9.size)
            go_wp2
            go_roundw
            case rel => exact ⟨l ++ [ev], _, kk - 1, rfl, by omega, by omega, by simp; omega, Lib.hid ((fireM_len gp m ev hmlH.out).trans hmlH.out), (fun _ x hx => by have := fireM_bd (B := 50 - kk) hmbH.out x hx; omega), hne2, hO9b, hO1b, hM3, hr9b, hx9b, hB9b, hS9b⟩
            case measure => simp [intOf]; omega
          · have q0 : (y == 0) = false := by simpa using hy0
            clear hy0
            go_wp2
            go_roundw
            case rel => exact ⟨l, m, kk - 1, rfl, by omega, by omega, by omega, hmlH, fun _ x hx => by have := hmbH.out x hx; omega, hne, hO, hU, hM, hres, hbox, hB, hS⟩
            case measure => simp [intOf]; omega
        · skip
          have l0 := hbox.lt
          obtain ⟨e0, e1⟩ := hbox.c2
          have hZ : Below wc.heap.size wc (wc.alloc (.cells #[.int .i64 (ev)] 2)) := (Below.refl _ _).alloc (Nat.le_refl _) _
          have hO9' := Lib.hid (hO.now hZ)
          have hU9' := Lib.hid (hU.now hZ)
          have hr9' := Lib.hid (hres.now hZ)
          have hx9' := Lib.hid (hbox.now hZ)
          have hS9' := Lib.hid (hS.now hZ)
          have hB9' := Lib.hid (hB.trans (hZ.mono hB.size))
          have hM9' := Lib.hid (hM.now hZ)
          have hneH := hne
          have hLL : Hid ((l ++ [(ev : Int)]).length = l.length + 1) := by show _ = _; simp
          have hlenA : ∀ y : Int, l.length + [y].length ≤ 1099511627776 := by intro y; simp; omega
          have hs3 := hB.size
          have hSl := hS.lt
          clear hZ hO hU hres hbox hB hS hM hne
          go_wp2_with (at_builtin; refine wpList_append_lst rfl _ _ 38 rfl intCell 1 intCell_one (by omega) (g + 1) 2 _ 8 Try.underlying38 info_i64 rfl _ _ rfl hU9'.out _ _ _ _ [ev] rfl (lst_new1 _ _ intCell_len _ _ _ _ rfl _ (by simp)) (hlenA _) (by omega) (Nat.le_of_lt (by simp; omega)) ?_; intro v' w9 hO1 hG1 hD1; obtain ⟨V1, cv1, rfl⟩ := own_shape_n hO1 hLL.out; have hO9 := own_kept hO9'.out hG1 (own_ne_own hO9'.out hU9'.out (by decide)); have hr9 := hr9'.out.grown hG1 (fun e => hU9'.out.ne_blk hr9'.out (by decide) e.symm); have hx9 := hx9'.out.grown hG1 (fun e => hU9'.out.ne_blk hx9'.out (by decide) e.symm); have hS9 := hS9'.out.kept hG1 (fun k e => by have := (hU9'.out.lt k e).1; omega); have hB9 := hB9'.out.grown hG1 hB9'.out.size (fun k e => by have := (hU9'.out.lt k e).1; omega); have hM9 := own_kept hM9'.out hG1 (fun k a b => hneH.out k b a); have hne9 : Hid (∀ k, (Value.slice V1 (l.length + 1) cv1).ownBlock = some k → (Value.slice M m.length cm).ownBlock = some k → False) := (fun k a b => by rcases hD1 with h | h; exact hneH.out k (h.symm.trans a) b; rw [h] at a; injection a with a; have := (hM9'.out.lt k b).2; omega); clear l0 e0 e1; have l0 := hx9.lt; obtain ⟨e0, e1⟩ := hx9.c2)
          clear l0 e0 e1 hG1 hD1 hO9' hU9' hr9' hx9' hS9' hB9' hM9' hneH
          refine (spec_l17FireW _ n gp _ m ev _ hO9.lst hM9.lst hokH hmlH hmb2 hgl).mono ?_
          rintro e w10 ⟨y9, rfl, hM2, hB10⟩
          have hne2 : Hid (∀ k, (Value.slice V1 (l.length + 1) cv1).ownBlock = some k → y9.ownBlock = some k → False) := fun k a b => by have := (hM2.lt k b).1; have := (hO1.lt k a).2; omega
          have hM3 := hM2.rebase (show g + 1 ≤ _ from hS9.lt)
          have hO1b := hO1.now hB10
          have hO9b := hO9.now hB10
          have hr9b := hr9.now hB10
          have hx9b := hx9.now hB10
          have hS9b := hS9.now hB10
          have hB9b := hB9.trans (hB10.mono hB9.size)
          go_wp2
          go_roundw
          case rel => exact ⟨l ++ [ev], _, kk - 1, rfl, by omega, by omega, by simp; omega, Lib.hid ((fireM_len gp m ev hmlH.out).trans hmlH.out), (fun _ x hx => by have := fireM_bd (B := 50 - kk) hmbH.out x hx; omega), hne2, hO9b, hO1b, hM3, hr9b, hx9b, hB9b, hS9b⟩
          case measure => simp [intOf]; omega
    · clear hM hne hbd
      obtain ⟨wa, rfl⟩ : ∃ wa : World, wa = wr := ⟨_, rfl⟩
      have l0 := hbox.lt
      obtain ⟨e0, e1⟩ := hbox.c2
      go_wp2_with fail
      clear l0 e0 e1
      refine (spec_l01Next g 40 _ hS (by omega)).mono ?_
      rintro e wb ⟨y, rfl, hy, hN⟩
      replace hO := own_draw hO (by decide) hS hN
      replace hU := own_draw hU (by decide) hS hN
      replace hres := blk_draw hres (by decide) hS hN
      replace hbox := blk_draw hbox (by decide) hS hN
      replace hB := below_draw hB hB.size hgb hN
      replace hS := hN.1
      clear hN
      clear hy
      have hs3 := hB.size
      have hSl := hS.lt
      by_cases hy0 : y = 0
      · subst hy0
        have l0 := hbox.lt
        obtain ⟨e0, e1⟩ := hbox.c2
        go_wp2_with fail
        clear l0 e0 e1
        have hZ : Below wb.heap.size wb (wb.alloc (.cells #[.int .i64 (-1), .int .i64 ge] 2)) := (Below.refl _ _).alloc (Nat.le_refl _) _
        replace hO := hO.now hZ
        replace hU := hU.now hZ
        replace hres := hres.now hZ
        replace hbox := hbox.now hZ
        replace hB := hB.trans (hZ.mono hB.size)
        replace hS := hS.now hZ
        clear hZ
        refine (spec_l01Pick g wb.heap.size [-1, ge] _ hS (Blk.newAt _ _ rfl) (by simp) (by simp)).mono ?_
        rintro e wc ⟨pk, hpk, rfl, hN⟩
        replace hO := own_draw hO (by decide) hS hN
        replace hU := own_draw hU (by decide) hS hN
        replace hres := blk_draw hres (by decide) hS hN
        replace hbox := blk_draw hbox (by decide) hS hN
        replace hB := below_draw hB hB.size hgb hN
        replace hS := hN.1
        clear hN
        clear hpk hs3 hSl
        have l0 := hbox.lt
        obtain ⟨e0, e1⟩ := hbox.c2
        have hZ : Below wc.heap.size wc (wc.alloc (.cells #[.int .i64 (pk)] 2)) := (Below.refl _ _).alloc (Nat.le_refl _) _
        have hO9' := Lib.hid (hO.now hZ)
        have hU9' := Lib.hid (hU.now hZ)
        have hr9' := Lib.hid (hres.now hZ)
        have hx9' := Lib.hid (hbox.now hZ)
        have hS9' := Lib.hid (hS.now hZ)
        have hB9' := Lib.hid (hB.trans (hZ.mono hB.size))
        have hLL : Hid ((l ++ [(pk : Int)]).length = l.length + 1) := by show _ = _; simp
        have hlenA : ∀ y : Int, l.length + [y].length ≤ 1099511627776 := by intro y; simp; omega
        have hs3 := hB.size
        have hSl := hS.lt
        clear hZ hO hU hres hbox hB hS
        go_wp2_with (at_builtin; refine wpList_append_lst rfl _ _ 38 rfl intCell 1 intCell_one (by omega) (g + 1) 2 _ 8 Try.underlying38 info_i64 rfl _ _ rfl hU9'.out _ _ _ _ [pk] rfl (lst_new1 _ _ intCell_len _ _ _ _ rfl _ (by simp)) (hlenA _) (by omega) (Nat.le_of_lt (by simp; omega)) ?_; intro v' w9 hO1 hG1 hD1; obtain ⟨V1, cv1, rfl⟩ := own_shape_n hO1 hLL.out; have hO9 := own_kept hO9'.out hG1 (own_ne_own hO9'.out hU9'.out (by decide)); have hr9 := hr9'.out.grown hG1 (fun e => hU9'.out.ne_blk hr9'.out (by decide) e.symm); have hx9 := hx9'.out.grown hG1 (fun e => hU9'.out.ne_blk hx9'.out (by decide) e.symm); have hS9 := hS9'.out.kept hG1 (fun k e => by have := (hU9'.out.lt k e).1; omega); have hB9 := hB9'.out.grown hG1 hB9'.out.size (fun k e => by have := (hU9'.out.lt k e).1; omega); clear l0 e0 e1; have l0 := hx9.lt; obtain ⟨e0, e1⟩ := hx9.c2; have f0 := hr9.frozen 0; have f1 := hr9.frozen 1; have lb2 := hr9.lt; obtain ⟨r0, r1⟩ := hr9.c2)
        have l0 := hx9.lt
        obtain ⟨e0, e1⟩ := hx9.c2
        have f0 := hr9.frozen 0
        have f1 := hr9.frozen 1
        have lb2 := hr9.lt
        obtain ⟨r0, r1⟩ := hr9.c2
        have hq1 := Lib.hid (own_far (own_far hO9 (p := ⟨b2, 0, none⟩) (hO9.ne_blk hr9 (by decide)) (.int .i64 ge)) (p := ⟨b2, 1, none⟩) (hO9.ne_blk hr9 (by decide)) (.slice A gp.length c))
        have hq2 := Lib.hid (Own.rebase (base' := w.heap.size) (own_far (own_far hO1 (p := ⟨b2, 0, none⟩) (hO1.ne_blk hr9 (by decide)) (.int .i64 ge)) (p := ⟨b2, 1, none⟩) (hO1.ne_blk hr9 (by decide)) (.slice A gp.length c)) (by omega))
        have hq3 := Lib.hid ((hB9.setCell (p := ⟨b2, 0, none⟩) hb2w (.int .i64 ge)).setCell (p := ⟨b2, 1, none⟩) hb2w (.slice A gp.length c))
        refine bodyPost_ret (v := .tuple #[.agg #[.int .i64 ge, .slice A gp.length c], _]) (by simp [results, Try.results38, go_sem, r0, r1]) rfl ⟨ge, gp, _, _, _, rfl, by omega, by omega, by omega, by first | omega | (simp; omega), hq1.out, hq2.out, hq3.out⟩
      · have q0 : (y == 0) = false := by simpa using hy0
        by_cases hy1 : y = 1
        · have q1 : (y == 1) = true := by simp [hy1]
          clear hy0 hy1 hO hU hbox hs3 hSl
          have hmk2 := fun q9 (h : q9 ≤ 101) => run_make_lst (P := Try.prog) intCell 1 intCell_len (by omega) (0 : Int) 38 2 _ 8 Try.underlying38 info_i64 rfl .i64 .i64 q9 (by omega) (by omega)
          have hm4 := Lib.hid (fun q9 h w base h2 => (hmk2 q9 h w).2 base h2)
          have hm3 := Lib.hid (fun q9 h w => (hmk2 q9 h w).1)
          clear hmk2
          obtain ⟨wa, rfl⟩ : ∃ wa : World, wa = wb := ⟨_, rfl⟩
          have hBd : Below wa.heap.size wa wa.drew := Below.drew (Below.refl _ wa)
          replace hres := hres.now hBd
          replace hB := hB.trans (hBd.mono hB.size)
          replace hS := hS.now hBd
          clear hBd
          go_wp2_with fail
          refine wp_region_held_drew (S := fun w' => True) (by kernel_rfl) trivial (fun hH => ?_)
          generalize wa.drew = Va at *
          refine wpAnyH_take (i := 2) (oi := { dst := _, op := _, type := _, pos := _, after := _, guard := _ }) (v := ?_) rfl (by kernel_rfl) (by kernel_rfl) (by kernel_rfl) (fun _ _ _ h => h) (Or.inl ⟨by rfl, ?_⟩) hH ?_
          rotate_left
          · intro w9 hSw
            try dsimp only at hSw
            obtain s0 := hSw
            go_simp
            try with_reducible rfl
          try simp only [Act.put, List.setIfInBounds_toArray, List.set_cons_zero, List.set_cons_succ]
          refine wpAnyH_ready (rs := [0, 3]) (by kernel_rfl) (by simp) ?_
          refine AllReadyH.cons rfl (fun K hK => ?_) (AllReadyH.cons rfl (fun K hK => ?_) AllReadyH.nil)
          · go_simp
            have hZ : Below Va.heap.size Va (Va.alloc (.cells #[] 45)) := (Below.refl _ _).alloc (Nat.le_refl _) _
            have hE : Own Place.cells 4 45 (Va.alloc (.cells #[] 45)) w.heap.size (.slice (some ⟨Va.heap.size, 0, none⟩) 0 0) ([] : List Place) := own_new0 Place.cells 4 Va 45 w.heap.size hB.size
            replace hres := hres.now hZ
            replace hB := hB.trans (hZ.mono hB.size)
            replace hS := hS.now hZ
            refine hK.out _ _ trivial (fun hH => ?_)
            clear hK K
            try simp only [Act.put, List.setIfInBounds_toArray, List.set_cons_zero, List.set_cons_succ]
            clear hZ
            obtain ⟨pb, hpb⟩ : ∃ pb, Va.heap.size = pb := ⟨_, rfl⟩
            rw [hpb] at hE ⊢
            clear hpb
            generalize (Va.alloc (.cells #[] 45)) = v1 at *
            refine wpAnyH_take (i := 1) (oi := { dst := _, op := _, type := _, pos := _, after := _, guard := _ }) (v := ?_) rfl (by kernel_rfl) (by kernel_rfl) (by kernel_rfl) (fun _ _ _ h => h) (Or.inl ⟨by rfl, ?_⟩) hH ?_
            rotate_left
            · intro w9 hSw
              try dsimp only at hSw
              obtain s0 := hSw
              go_simp
              try with_reducible rfl
            try simp only [Act.put, List.setIfInBounds_toArray, List.set_cons_zero, List.set_cons_succ]
            refine wpAnyH_ready (rs := [3]) (by kernel_rfl) (by simp) ?_
            refine AllReadyH.cons rfl (fun K hK => ?_) AllReadyH.nil
            go_simp
            go_at_call 112
            refine (spec_l01Next g 2 _ hS (by omega)).mono ?_
            rintro e v2 ⟨y2, rfl, hy2, hN⟩
            replace hres := blk_draw hres (by decide) hS hN
            replace hE := own_draw hE (by decide) hS hN
            replace hB := below_draw hB hB.size hgb hN
            replace hS := hN.1
            obtain ⟨y2, rfl⟩ := Int.eq_ofNat_of_zero_le hy2.1
            have hy2b : y2 < 2 := by have := hy2.2.1 (by omega); omega
            obtain ⟨q9, hq9⟩ : ∃ q9 : Nat, q9 = 100 + y2 := ⟨_, rfl⟩
            have wq : IntKind.i64.wrap (100 + (y2 : Int)) = (q9 : Int) := (IntWalk.i64_in _ (by omega)).trans (by omega)
            have hq92 : q9 ≤ 101 := by omega
            have hm3' := hm3.out q9 hq92
            clear hq9
            clear hN hy2
            refine hK.out _ _ trivial (fun hH => ?_)
            clear hK K
            try simp only [Act.put, List.setIfInBounds_toArray, List.set_cons_zero, List.set_cons_succ]
            refine wpAnyH_take (i := 4) (oi := { dst := _, op := _, type := _, pos := _, after := _, guard := _ }) (v := ?_) rfl (by kernel_rfl) (by kernel_rfl) (by kernel_rfl) (fun _ _ _ h => h) (Or.inl ⟨by rfl, ?_⟩) hH ?_
            rotate_left
            · intro w9 hSw
              try dsimp only at hSw
              obtain s0 := hSw
              go_simp
              try with_reducible rfl
            try simp only [Act.put, List.setIfInBounds_toArray, List.set_cons_zero, List.set_cons_succ]
            refine wpAnyH_ready (rs := [5, 6]) (by kernel_rfl) (by simp) ?_
            refine AllReadyH.cons rfl (fun K hK => ?_) (AllReadyH.cons rfl (fun K hK => ?_) AllReadyH.nil)
            · go_simp
              have hL := hm4.out q9 hq92 v2 w.heap.size hB.size
              have hZ : Below v2.heap.size v2 (v2.alloc (.cells (madeCells (intCell 0).toArray (q9 * 1)) 2)) := (Below.refl _ _).alloc (Nat.le_refl _) _
              replace hres := hres.now hZ
              replace hE := hE.now hZ
              replace hB := hB.trans (hZ.mono hB.size)
              replace hS := hS.now hZ
              simp only [Nat.mul_one] at hL hZ hres hE hS hB
              try simp only [Nat.mul_one]
              refine hK.out _ _ trivial (fun hH => ?_)
              clear hK K
              try simp only [Act.put, List.setIfInBounds_toArray, List.set_cons_zero, List.set_cons_succ]
              clear hZ
              obtain ⟨lb, hlb⟩ : ∃ lb, v2.heap.size = lb := ⟨_, rfl⟩
              rw [hlb] at hL ⊢
              clear hlb
              generalize (v2.alloc (.cells (madeCells (intCell 0).toArray (q9)) 2)) = v3 at *
              refine wpAnyH_ready (rs := [6]) (by kernel_rfl) (by simp) ?_
              refine AllReadyH.cons rfl (fun K hK => ?_) AllReadyH.nil
              have f0 := hres.frozen 0
              have f1 := hres.frozen 1
              have lb2 := hres.lt
              obtain ⟨r0, r1⟩ := hres.c2
              have hst : Blk ((v3.setCell ⟨b2, 0, none⟩ (.int .i64 1)).setCell ⟨b2, 1, none⟩ (.slice (some ⟨pb, 0, none⟩) 0 0)) b2 26 #[.int .i64 1, .slice (some ⟨pb, 0, none⟩) 0 0] := by simpa using (hres.set_ 0 (.int .i64 1)).set_ 1 (.slice (some ⟨pb, 0, none⟩) 0 0)
              replace hE : Own Place.cells 4 45 ((v3.setCell ⟨b2, 0, none⟩ (.int .i64 1)).setCell ⟨b2, 1, none⟩ (.slice (some ⟨pb, 0, none⟩) 0 0)) w.heap.size (.slice (some ⟨pb, 0, none⟩) 0 0) ([] : List Place) := own_far (own_far hE (p := ⟨b2, 0, none⟩) (hE.ne_blk hres (by decide)) (.int .i64 1)) (p := ⟨b2, 1, none⟩) (hE.ne_blk hres (by decide)) (.slice (some ⟨pb, 0, none⟩) 0 0)
              replace hL : Own intCell 1 2 ((v3.setCell ⟨b2, 0, none⟩ (.int .i64 1)).setCell ⟨b2, 1, none⟩ (.slice (some ⟨pb, 0, none⟩) 0 0)) w.heap.size (.slice (some ⟨lb, 0, none⟩) q9 q9) (List.replicate q9 0) := own_far (own_far hL (p := ⟨b2, 0, none⟩) (hL.ne_blk hres (by decide)) (.int .i64 1)) (p := ⟨b2, 1, none⟩) (hL.ne_blk hres (by decide)) (.slice (some ⟨pb, 0, none⟩) 0 0)
              replace hB := (hB.setCell (p := ⟨b2, 0, none⟩) hb2w (.int .i64 1)).setCell (p := ⟨b2, 1, none⟩) hb2w (.slice (some ⟨pb, 0, none⟩) 0 0)
              clear hS
              go_simp
              refine hK.out _ _ trivial (fun hH => ?_)
              clear hK K
              try simp only [Act.put, List.setIfInBounds_toArray, List.set_cons_zero, List.set_cons_succ]
              clear f0 f1 lb2 r0 r1 hres
              generalize ((v3.setCell ⟨b2, 0, none⟩ (.int .i64 1)).setCell ⟨b2, 1, none⟩ (.slice (some ⟨pb, 0, none⟩) 0 0)) = v4 at *
              refine wpAnyH_take (i := 7) (oi := { dst := _, op := _, type := _, pos := _, after := _, guard := _ }) (v := ?_) rfl (by kernel_rfl) (by kernel_rfl) (by kernel_rfl) (fun _ _ _ h => h) (Or.inl ⟨by rfl, ?_⟩) hH ?_
              rotate_left
              · intro w9 hSw
                try dsimp only at hSw
                obtain s0 := hSw
                go_simp
                try with_reducible rfl
              try simp only [Act.put, List.setIfInBounds_toArray, List.set_cons_zero, List.set_cons_succ]
              refine wpAnyH_done (by kernel_rfl) ?_ _
              clear hH
              obtain ⟨r0, r1⟩ := hst.c2
              go_wp2
              refine bodyPost_ret (v := .tuple #[.agg #[.int .i64 1, .slice (some ⟨pb, 0, none⟩) 0 0], _]) (by simp [results, Try.results38, go_sem, r0, r1]) rfl ⟨1, [], _, _, (List.replicate q9 0), rfl, by omega, by omega, by simp, by simp <;> omega, hE, hL, hB⟩
            · have f0 := hres.frozen 0
              have f1 := hres.frozen 1
              have lb2 := hres.lt
              obtain ⟨r0, r1⟩ := hres.c2
              have hst : Blk ((v2.setCell ⟨b2, 0, none⟩ (.int .i64 1)).setCell ⟨b2, 1, none⟩ (.slice (some ⟨pb, 0, none⟩) 0 0)) b2 26 #[.int .i64 1, .slice (some ⟨pb, 0, none⟩) 0 0] := by simpa using (hres.set_ 0 (.int .i64 1)).set_ 1 (.slice (some ⟨pb, 0, none⟩) 0 0)
              replace hE : Own Place.cells 4 45 ((v2.setCell ⟨b2, 0, none⟩ (.int .i64 1)).setCell ⟨b2, 1, none⟩ (.slice (some ⟨pb, 0, none⟩) 0 0)) w.heap.size (.slice (some ⟨pb, 0, none⟩) 0 0) ([] : List Place) := own_far (own_far hE (p := ⟨b2, 0, none⟩) (hE.ne_blk hres (by decide)) (.int .i64 1)) (p := ⟨b2, 1, none⟩) (hE.ne_blk hres (by decide)) (.slice (some ⟨pb, 0, none⟩) 0 0)
              replace hB := (hB.setCell (p := ⟨b2, 0, none⟩) hb2w (.int .i64 1)).setCell (p := ⟨b2, 1, none⟩) hb2w (.slice (some ⟨pb, 0, none⟩) 0 0)
              clear hS
              go_simp
              refine hK.out _ _ trivial (fun hH => ?_)
              clear hK K
              try simp only [Act.put, List.setIfInBounds_toArray, List.set_cons_zero, List.set_cons_succ]
              clear f0 f1 lb2 r0 r1 hres
              generalize ((v2.setCell ⟨b2, 0, none⟩ (.int .i64 1)).setCell ⟨b2, 1, none⟩ (.slice (some ⟨pb, 0, none⟩) 0 0)) = v5 at *
              refine wpAnyH_ready (rs := [5]) (by kernel_rfl) (by simp) ?_
              refine AllReadyH.cons rfl (fun K hK => ?_) AllReadyH.nil
              go_simp
              have hL := hm4.out q9 hq92 v5 w.heap.size hB.size
              have hZ : Below v5.heap.size v5 (v5.alloc (.cells (madeCells (intCell 0).toArray (q9 * 1)) 2)) := (Below.refl _ _).alloc (Nat.le_refl _) _
              replace hE := hE.now hZ
              replace hst := hst.now hZ
              replace hB := hB.trans (hZ.mono hB.size)
              simp only [Nat.mul_one] at hL hZ hE hst hB
              try simp only [Nat.mul_one]
              refine hK.out _ _ trivial (fun hH => ?_)
              clear hK K
              try simp only [Act.put, List.setIfInBounds_toArray, List.set_cons_zero, List.set_cons_succ]
              clear hZ
              obtain ⟨lb, hlb⟩ : ∃ lb, v5.heap.size = lb := ⟨_, rfl⟩
              rw [hlb] at hL ⊢
              clear hlb
              generalize (v5.alloc (.cells (madeCells (intCell 0).toArray (q9)) 2)) = v6 at *
              refine wpAnyH_take (i := 7) (oi := { dst := _, op := _, type := _, pos := _, after := _, guard := _ }) (v := ?_) rfl (by kernel_rfl) (by kernel_rfl) (by kernel_rfl) (fun _ _ _ h => h) (Or.inl ⟨by rfl, ?_⟩) hH ?_
              rotate_left
              · intro w9 hSw
                try dsimp only at hSw
                obtain s0 := hSw
                go_simp
                try with_reducible rfl
              try simp only [Act.put, List.setIfInBounds_toArray, List.set_cons_zero, List.set_cons_succ]
              refine wpAnyH_done (by kernel_rfl) ?_ _
              clear hH
              obtain ⟨r0, r1⟩ := hst.c2
              go_wp2
              refine bodyPost_ret (v := .tuple #[.agg #[.int .i64 1, .slice (some ⟨pb, 0, none⟩) 0 0], _]) (by simp [results, Try.results38, go_sem, r0, r1]) rfl ⟨1, [], _, _, (List.replicate q9 0), rfl, by omega, by omega, by simp, by simp <;> omega, hE, hL, hB⟩
          · go_simp
            go_at_call 112
            refine (spec_l01Next g 2 _ hS (by omega)).mono ?_
            rintro e v7 ⟨y2, rfl, hy2, hN⟩
            replace hres := blk_draw hres (by decide) hS hN
            replace hB := below_draw hB hB.size hgb hN
            replace hS := hN.1
            obtain ⟨y2, rfl⟩ := Int.eq_ofNat_of_zero_le hy2.1
            have hy2b : y2 < 2 := by have := hy2.2.1 (by omega); omega
            obtain ⟨q9, hq9⟩ : ∃ q9 : Nat, q9 = 100 + y2 := ⟨_, rfl⟩
            have wq : IntKind.i64.wrap (100 + (y2 : Int)) = (q9 : Int) := (IntWalk.i64_in _ (by omega)).trans (by omega)
            have hq92 : q9 ≤ 101 := by omega
            have hm3' := hm3.out q9 hq92
            clear hq9
            clear hN hy2
            refine hK.out _ _ trivial (fun hH => ?_)
            clear hK K
            try simp only [Act.put, List.setIfInBounds_toArray, List.set_cons_zero, List.set_cons_succ]
            refine wpAnyH_take (i := 4) (oi := { dst := _, op := _, type := _, pos := _, after := _, guard := _ }) (v := ?_) rfl (by kernel_rfl) (by kernel_rfl) (by kernel_rfl) (fun _ _ _ h => h) (Or.inl ⟨by rfl, ?_⟩) hH ?_
            rotate_left
            · intro w9 hSw
              try dsimp only at hSw
              obtain s0 := hSw
              go_simp
              try with_reducible rfl
            try simp only [Act.put, List.setIfInBounds_toArray, List.set_cons_zero, List.set_cons_succ]
            refine wpAnyH_ready (rs := [0, 5]) (by kernel_rfl) (by simp) ?_
            refine AllReadyH.cons rfl (fun K hK => ?_) (AllReadyH.cons rfl (fun K hK => ?_) AllReadyH.nil)
            · go_simp
              have hZ : Below v7.heap.size v7 (v7.alloc (.cells #[] 45)) := (Below.refl _ _).alloc (Nat.le_refl _) _
              have hE : Own Place.cells 4 45 (v7.alloc (.cells #[] 45)) w.heap.size (.slice (some ⟨v7.heap.size, 0, none⟩) 0 0) ([] : List Place) := own_new0 Place.cells 4 v7 45 w.heap.size hB.size
              replace hres := hres.now hZ
              replace hB := hB.trans (hZ.mono hB.size)
              replace hS := hS.now hZ
              refine hK.out _ _ trivial (fun hH => ?_)
              clear hK K
              try simp only [Act.put, List.setIfInBounds_toArray, List.set_cons_zero, List.set_cons_succ]
              clear hZ
              obtain ⟨pb, hpb⟩ : ∃ pb, v7.heap.size = pb := ⟨_, rfl⟩
              rw [hpb] at hE ⊢
              clear hpb
              generalize (v7.alloc (.cells #[] 45)) = v8 at *
              refine wpAnyH_take (i := 1) (oi := { dst := _, op := _, type := _, pos := _, after := _, guard := _ }) (v := ?_) rfl (by kernel_rfl) (by kernel_rfl) (by kernel_rfl) (fun _ _ _ h => h) (Or.inl ⟨by rfl, ?_⟩) hH ?_
              rotate_left
              · intro w9 hSw
                try dsimp only at hSw
                obtain s0 := hSw
                go_simp
                try with_reducible rfl
              try simp only [Act.put, List.setIfInBounds_toArray, List.set_cons_zero, List.set_cons_succ]
              refine wpAnyH_ready (rs := [5, 6]) (by kernel_rfl) (by simp) ?_
              refine AllReadyH.cons rfl (fun K hK => ?_) (AllReadyH.cons rfl (fun K hK => ?_) AllReadyH.nil)
              · go_simp
                have hL := hm4.out q9 hq92 v8 w.heap.size hB.size
                have hZ : Below v8.heap.size v8 (v8.alloc (.cells (madeCells (intCell 0).toArray (q9 * 1)) 2)) := (Below.refl _ _).alloc (Nat.le_refl _) _
                replace hres := hres.now hZ
                replace hE := hE.now hZ
                replace hB := hB.trans (hZ.mono hB.size)
                replace hS := hS.now hZ
                simp only [Nat.mul_one] at hL hZ hres hE hS hB
                try simp only [Nat.mul_one]
                refine hK.out _ _ trivial (fun hH => ?_)
                clear hK K
                try simp only [Act.put, List.setIfInBounds_toArray, List.set_cons_zero, List.set_cons_succ]
                clear hZ
                obtain ⟨lb, hlb⟩ : ∃ lb, v8.heap.size = lb := ⟨_, rfl⟩
                rw [hlb] at hL ⊢
                clear hlb
                generalize (v8.alloc (.cells (madeCells (intCell 0).toArray (q9)) 2)) = v9 at *
                refine wpAnyH_ready (rs := [6]) (by kernel_rfl) (by simp) ?_
                refine AllReadyH.cons rfl (fun K hK => ?_) AllReadyH.nil
                have f0 := hres.frozen 0
                have f1 := hres.frozen 1
                have lb2 := hres.lt
                obtain ⟨r0, r1⟩ := hres.c2
                have hst : Blk ((v9.setCell ⟨b2, 0, none⟩ (.int .i64 1)).setCell ⟨b2, 1, none⟩ (.slice (some ⟨pb, 0, none⟩) 0 0)) b2 26 #[.int .i64 1, .slice (some ⟨pb, 0, none⟩) 0 0] := by simpa using (hres.set_ 0 (.int .i64 1)).set_ 1 (.slice (some ⟨pb, 0, none⟩) 0 0)
                replace hE : Own Place.cells 4 45 ((v9.setCell ⟨b2, 0, none⟩ (.int .i64 1)).setCell ⟨b2, 1, none⟩ (.slice (some ⟨pb, 0, none⟩) 0 0)) w.heap.size (.slice (some ⟨pb, 0, none⟩) 0 0) ([] : List Place) := own_far (own_far hE (p := ⟨b2, 0, none⟩) (hE.ne_blk hres (by decide)) (.int .i64 1)) (p := ⟨b2, 1, none⟩) (hE.ne_blk hres (by decide)) (.slice (some ⟨pb, 0, none⟩) 0 0)
                replace hL : Own intCell 1 2 ((v9.setCell ⟨b2, 0, none⟩ (.int .i64 1)).setCell ⟨b2, 1, none⟩ (.slice (some ⟨pb, 0, none⟩) 0 0)) w.heap.size (.slice (some ⟨lb, 0, none⟩) q9 q9) (List.replicate q9 0) := own_far (own_far hL (p := ⟨b2, 0, none⟩) (hL.ne_blk hres (by decide)) (.int .i64 1)) (p := ⟨b2, 1, none⟩) (hL.ne_blk hres (by decide)) (.slice (some ⟨pb, 0, none⟩) 0 0)
                replace hB := (hB.setCell (p := ⟨b2, 0, none⟩) hb2w (.int .i64 1)).setCell (p := ⟨b2, 1, none⟩) hb2w (.slice (some ⟨pb, 0, none⟩) 0 0)
                clear hS
                go_simp
                refine hK.out _ _ trivial (fun hH => ?_)
                clear hK K
                try simp only [Act.put, List.setIfInBounds_toArray, List.set_cons_zero, List.set_cons_succ]
                clear f0 f1 lb2 r0 r1 hres
                generalize ((v9.setCell ⟨b2, 0, none⟩ (.int .i64 1)).setCell ⟨b2, 1, none⟩ (.slice (some ⟨pb, 0, none⟩) 0 0)) = v10 at *
                refine wpAnyH_take (i := 7) (oi := { dst := _, op := _, type := _, pos := _, after := _, guard := _ }) (v := ?_) rfl (by kernel_rfl) (by kernel_rfl) (by kernel_rfl) (fun _ _ _ h => h) (Or.inl ⟨by rfl, ?_⟩) hH ?_
                rotate_left
                · intro w9 hSw
                  try dsimp only at hSw
                  obtain s0 := hSw
                  go_simp
                  try with_reducible rfl
                try simp only [Act.put, List.setIfInBounds_toArray, List.set_cons_zero, List.set_cons_succ]
                refine wpAnyH_done (by kernel_rfl) ?_ _
                clear hH
                obtain ⟨r0, r1⟩ := hst.c2
                go_wp2
                refine bodyPost_ret (v := .tuple #[.agg #[.int .i64 1, .slice (some ⟨pb, 0, none⟩) 0 0], _]) (by simp [results, Try.results38, go_sem, r0, r1]) rfl ⟨1, [], _, _, (List.replicate q9 0), rfl, by omega, by omega, by simp, by simp <;> omega, hE, hL, hB⟩
              · have f0 := hres.frozen 0
                have f1 := hres.frozen 1
                have lb2 := hres.lt
                obtain ⟨r0, r1⟩ := hres.c2
                have hst : Blk ((v8.setCell ⟨b2, 0, none⟩ (.int .i64 1)).setCell ⟨b2, 1, none⟩ (.slice (some ⟨pb, 0, none⟩) 0 0)) b2 26 #[.int .i64 1, .slice (some ⟨pb, 0, none⟩) 0 0] := by simpa using (hres.set_ 0 (.int .i64 1)).set_ 1 (.slice (some ⟨pb, 0, none⟩) 0 0)
                replace hE : Own Place.cells 4 45 ((v8.setCell ⟨b2, 0, none⟩ (.int .i64 1)).setCell ⟨b2, 1, none⟩ (.slice (some ⟨pb, 0, none⟩) 0 0)) w.heap.size (.slice (some ⟨pb, 0, none⟩) 0 0) ([] : List Place) := own_far (own_far hE (p := ⟨b2, 0, none⟩) (hE.ne_blk hres (by decide)) (.int .i64 1)) (p := ⟨b2, 1, none⟩) (hE.ne_blk hres (by decide)) (.slice (some ⟨pb, 0, none⟩) 0 0)
                replace hB := (hB.setCell (p := ⟨b2, 0, none⟩) hb2w (.int .i64 1)).setCell (p := ⟨b2, 1, none⟩) hb2w (.slice (some ⟨pb, 0, none⟩) 0 0)
                clear hS
                go_simp
                refine hK.out _ _ trivial (fun hH => ?_)
                clear hK K
                try simp only [Act.put, List.setIfInBounds_toArray, List.set_cons_zero, List.set_cons_succ]
                clear f0 f1 lb2 r0 r1 hres
                generalize ((v8.setCell ⟨b2, 0, none⟩ (.int .i64 1)).setCell ⟨b2, 1, none⟩ (.slice (some ⟨pb, 0, none⟩) 0 0)) = v11 at *
                refine wpAnyH_ready (rs := [5]) (by kernel_rfl) (by simp) ?_
                refine AllReadyH.cons rfl (fun K hK => ?_) AllReadyH.nil
                go_simp
                have hL := hm4.out q9 hq92 v11 w.heap.size hB.size
                have hZ : Below v11.heap.size v11 (v11.alloc (.cells (madeCells (intCell 0).toArray (q9 * 1)) 2)) := (Below.refl _ _).alloc (Nat.le_refl _) _
                replace hE := hE.now hZ
                replace hst := hst.now hZ
                replace hB := hB.trans (hZ.mono hB.size)
                simp only [Nat.mul_one] at hL hZ hE hst hB
                try simp only [Nat.mul_one]
                refine hK.out _ _ trivial (fun hH => ?_)
                clear hK K
                try simp only [Act.put, List.setIfInBounds_toArray, List.set_cons_zero, List.set_cons_succ]
                clear hZ
                obtain ⟨lb, hlb⟩ : ∃ lb, v11.heap.size = lb := ⟨_, rfl⟩
                rw [hlb] at hL ⊢
                clear hlb
                generalize (v11.alloc (.cells (madeCells (intCell 0).toArray (q9)) 2)) = v12 at *
                refine wpAnyH_take (i := 7) (oi := { dst := _, op := _, type := _, pos := _, after := _, guard := _ }) (v := ?_) rfl (by kernel_rfl) (by kernel_rfl) (by kernel_rfl) (fun _ _ _ h => h) (Or.inl ⟨by rfl, ?_⟩) hH ?_
                rotate_left
                · intro w9 hSw
                  try dsimp only at hSw
                  obtain s0 := hSw
                  go_simp
                  try with_reducible rfl
                try simp only [Act.put, List.setIfInBounds_toArray, List.set_cons_zero, List.set_cons_succ]
                refine wpAnyH_done (by kernel_rfl) ?_ _
                clear hH
                obtain ⟨r0, r1⟩ := hst.c2
                go_wp2
                refine bodyPost_ret (v := .tuple #[.agg #[.int .i64 1, .slice (some ⟨pb, 0, none⟩) 0 0], _]) (by simp [results, Try.results38, go_sem, r0, r1]) rfl ⟨1, [], _, _, (List.replicate q9 0), rfl, by omega, by omega, by simp, by simp <;> omega, hE, hL, hB⟩
            · go_simp
              have hL := hm4.out q9 hq92 v7 w.heap.size hB.size
              have hZ : Below v7.heap.size v7 (v7.alloc (.cells (madeCells (intCell 0).toArray (q9 * 1)) 2)) := (Below.refl _ _).alloc (Nat.le_refl _) _
              replace hres := hres.now hZ
              replace hB := hB.trans (hZ.mono hB.size)
              replace hS := hS.now hZ
              simp only [Nat.mul_one] at hL hZ hres hS hB
              try simp only [Nat.mul_one]
              refine hK.out _ _ trivial (fun hH => ?_)
              clear hK K
              try simp only [Act.put, List.setIfInBounds_toArray, List.set_cons_zero, List.set_cons_succ]
              clear hZ
              obtain ⟨lb, hlb⟩ : ∃ lb, v7.heap.size = lb := ⟨_, rfl⟩
              rw [hlb] at hL ⊢
              clear hlb
              generalize (v7.alloc (.cells (madeCells (intCell 0).toArray (q9)) 2)) = v13 at *
              refine wpAnyH_ready (rs := [0]) (by kernel_rfl) (by simp) ?_
              refine AllReadyH.cons rfl (fun K hK => ?_) AllReadyH.nil
              go_simp
              have hZ : Below v13.heap.size v13 (v13.alloc (.cells #[] 45)) := (Below.refl _ _).alloc (Nat.le_refl _) _
              have hE : Own Place.cells 4 45 (v13.alloc (.cells #[] 45)) w.heap.size (.slice (some ⟨v13.heap.size, 0, none⟩) 0 0) ([] : List Place) := own_new0 Place.cells 4 v13 45 w.heap.size hB.size
              replace hres := hres.now hZ
              replace hL := hL.now hZ
              replace hB := hB.trans (hZ.mono hB.size)
              replace hS := hS.now hZ
              refine hK.out _ _ trivial (fun hH => ?_)
              clear hK K
              try simp only [Act.put, List.setIfInBounds_toArray, List.set_cons_zero, List.set_cons_succ]
              clear hZ
              obtain ⟨pb, hpb⟩ : ∃ pb, v13.heap.size = pb := ⟨_, rfl⟩
              rw [hpb] at hE ⊢
              clear hpb
              generalize (v13.alloc (.cells #[] 45)) = v14 at *
              refine wpAnyH_take (i := 1) (oi := { dst := _, op := _, type := _, pos := _, after := _, guard := _ }) (v := ?_) rfl (by kernel_rfl) (by kernel_rfl) (by kernel_rfl) (fun _ _ _ h => h) (Or.inl ⟨by rfl, ?_⟩) hH ?_
              rotate_left
              · intro w9 hSw
                try dsimp only at hSw
                obtain s0 := hSw
                go_simp
                try with_reducible rfl
              try simp only [Act.put, List.setIfInBounds_toArray, List.set_cons_zero, List.set_cons_succ]
              refine wpAnyH_ready (rs := [6]) (by kernel_rfl) (by simp) ?_
              refine AllReadyH.cons rfl (fun K hK => ?_) AllReadyH.nil
              have f0 := hres.frozen 0
              have f1 := hres.frozen 1
              have lb2 := hres.lt
              obtain ⟨r0, r1⟩ := hres.c2
              have hst : Blk ((v14.setCell ⟨b2, 0, none⟩ (.int .i64 1)).setCell ⟨b2, 1, none⟩ (.slice (some ⟨pb, 0, none⟩) 0 0)) b2 26 #[.int .i64 1, .slice (some ⟨pb, 0, none⟩) 0 0] := by simpa using (hres.set_ 0 (.int .i64 1)).set_ 1 (.slice (some ⟨pb, 0, none⟩) 0 0)
              replace hL : Own intCell 1 2 ((v14.setCell ⟨b2, 0, none⟩ (.int .i64 1)).setCell ⟨b2, 1, none⟩ (.slice (some ⟨pb, 0, none⟩) 0 0)) w.heap.size (.slice (some ⟨lb, 0, none⟩) q9 q9) (List.replicate q9 0) := own_far (own_far hL (p := ⟨b2, 0, none⟩) (hL.ne_blk hres (by decide)) (.int .i64 1)) (p := ⟨b2, 1, none⟩) (hL.ne_blk hres (by decide)) (.slice (some ⟨pb, 0, none⟩) 0 0)
              replace hE : Own Place.cells 4 45 ((v14.setCell ⟨b2, 0, none⟩ (.int .i64 1)).setCell ⟨b2, 1, none⟩ (.slice (some ⟨pb, 0, none⟩) 0 0)) w.heap.size (.slice (some ⟨pb, 0, none⟩) 0 0) ([] : List Place) := own_far (own_far hE (p := ⟨b2, 0, none⟩) (hE.ne_blk hres (by decide)) (.int .i64 1)) (p := ⟨b2, 1, none⟩) (hE.ne_blk hres (by decide)) (.slice (some ⟨pb, 0, none⟩) 0 0)
              replace hB := (hB.setCell (p := ⟨b2, 0, none⟩) hb2w (.int .i64 1)).setCell (p := ⟨b2, 1, none⟩) hb2w (.slice (some ⟨pb, 0, none⟩) 0 0)
              clear hS
              go_simp
              refine hK.out _ _ trivial (fun hH => ?_)
              clear hK K
              try simp only [Act.put, List.setIfInBounds_toArray, List.set_cons_zero, List.set_cons_succ]
              clear f0 f1 lb2 r0 r1 hres
              generalize ((v14.setCell ⟨b2, 0, none⟩ (.int .i64 1)).setCell ⟨b2, 1, none⟩ (.slice (some ⟨pb, 0, none⟩) 0 0)) = v15 at *
              refine wpAnyH_take (i := 7) (oi := { dst := _, op := _, type := _, pos := _, after := _, guard := _ }) (v := ?_) rfl (by kernel_rfl) (by kernel_rfl) (by kernel_rfl) (fun _ _ _ h => h) (Or.inl ⟨by rfl, ?_⟩) hH ?_
              rotate_left
              · intro w9 hSw
                try dsimp only at hSw
                obtain s0 := hSw
                go_simp
                try with_reducible rfl
              try simp only [Act.put, List.setIfInBounds_toArray, List.set_cons_zero, List.set_cons_succ]
              refine wpAnyH_done (by kernel_rfl) ?_ _
              clear hH
              obtain ⟨r0, r1⟩ := hst.c2
              go_wp2
              refine bodyPost_ret (v := .tuple #[.agg #[.int .i64 1, .slice (some ⟨pb, 0, none⟩) 0 0], _]) (by simp [results, Try.results38, go_sem, r0, r1]) rfl ⟨1, [], _, _, (List.replicate q9 0), rfl, by omega, by omega, by simp, by simp <;> omega, hE, hL, hB⟩
        · have q1 : (y == 1) = false := by simpa using hy1
          by_cases hy2 : y = 2
          · have q2 : (y == 2) = true := by simp [hy2]
            clear hy0 hy1 hy2 hO hU hbox hs3 hSl
            have hmk2 := run_make_lst (P := Try.prog) intCell 1 intCell_len (by omega) (0 : Int) 38 2 _ 8 Try.underlying38 info_i64 rfl .i64 .i64 100 (by omega) (by omega)
            have hm4 := Lib.hid (fun w base h2 => (hmk2 w).2 base h2)
            have hm3 := fun w => (hmk2 w).1
            simp only [show ((100 : Nat) : Int) = 100 from rfl] at hm3
            clear hmk2
            obtain ⟨wa, rfl⟩ : ∃ wa : World, wa = wb := ⟨_, rfl⟩
            have hBd : Below wa.heap.size wa wa.drew := Below.drew (Below.refl _ wa)
            replace hres := hres.now hBd
            replace hB := hB.trans (hBd.mono hB.size)
            replace hS := hS.now hBd
            clear hBd
            go_wp2_with fail
            refine wp_region_held_drew (S := fun w' => True) (by kernel_rfl) trivial (fun hH => ?_)
            generalize wa.drew = Va at *
            refine wpAnyH_take (i := 0) (oi := { dst := _, op := _, type := _, pos := _, after := _, guard := _ }) (v := ?_) rfl (by kernel_rfl) (by kernel_rfl) (by kernel_rfl) (fun _ _ _ h => h) (Or.inl ⟨by rfl, ?_⟩) hH ?_
            rotate_left
            · intro w9 hSw
              try dsimp only at hSw
              obtain s0 := hSw
              go_simp
              try with_reducible rfl
            try simp only [Act.put, List.setIfInBounds_toArray, List.set_cons_zero, List.set_cons_succ]
            refine wpAnyH_ready (rs := [1, 5]) (by kernel_rfl) (by simp) ?_
            refine AllReadyH.cons rfl (fun K hK => ?_) (AllReadyH.cons rfl (fun K hK => ?_) AllReadyH.nil)
            · go_simp
              go_at_call 112
              refine (spec_l01Next g 2 _ hS (by omega)).mono ?_
              rintro e v1 ⟨y2, rfl, hy2, hN⟩
              replace hres := blk_draw hres (by decide) hS hN
              replace hB := below_draw hB hB.size hgb hN
              replace hS := hN.1
              obtain ⟨y2, rfl⟩ := Int.eq_ofNat_of_zero_le hy2.1
              have hy2b : y2 < 2 := by have := hy2.2.1 (by omega); omega
              clear hN hy2
              refine hK.out _ _ trivial (fun hH => ?_)
              clear hK K
              try simp only [Act.put, List.setIfInBounds_toArray, List.set_cons_zero, List.set_cons_succ]
              refine wpAnyH_take (i := 2) (oi := { dst := _, op := _, type := _, pos := _, after := _, guard := _ }) (v := ?_) rfl (by kernel_rfl) (by kernel_rfl) (by kernel_rfl) (fun _ _ _ h => h) (Or.inl ⟨by rfl, ?_⟩) hH ?_
              rotate_left
              · intro w9 hSw
                try dsimp only at hSw
                obtain s0 := hSw
                go_simp
                try with_reducible rfl
              try simp only [Act.put, List.setIfInBounds_toArray, List.set_cons_zero, List.set_cons_succ]
              refine wpAnyH_ready (rs := [3, 5]) (by kernel_rfl) (by simp) ?_
              refine AllReadyH.cons rfl (fun K hK => ?_) (AllReadyH.cons rfl (fun K hK => ?_) AllReadyH.nil)
              · go_simp
                have hZ : Below v1.heap.size v1 (v1.alloc (.cells #[.int .i64 0, .int .i64 1, .int .i64 0, .int .i64 (y2 : Nat)] 45)) := (Below.refl _ _).alloc (Nat.le_refl _) _
                have hE : Own Place.cells 4 45 (v1.alloc (.cells #[.int .i64 0, .int .i64 1, .int .i64 0, .int .i64 (y2 : Nat)] 45)) w.heap.size (.slice (some ⟨v1.heap.size, 0, none⟩) 1 1) ([⟨0, 1, 0, (y2 : Int)⟩] : List Place) := own_new1T Place.cells 4 Place.cells_len v1 45 w.heap.size hB.size ⟨0, 1, 0, (y2 : Int)⟩ (by decide)
                replace hres := hres.now hZ
                replace hB := hB.trans (hZ.mono hB.size)
                replace hS := hS.now hZ
                refine hK.out _ _ trivial (fun hH => ?_)
                clear hK K
                try simp only [Act.put, List.setIfInBounds_toArray, List.set_cons_zero, List.set_cons_succ]
                clear hZ
                obtain ⟨pb, hpb⟩ : ∃ pb, v1.heap.size = pb := ⟨_, rfl⟩
                rw [hpb] at hE ⊢
                clear hpb
                generalize (v1.alloc (.cells #[.int .i64 0, .int .i64 1, .int .i64 0, .int .i64 (y2 : Nat)] 45)) = v2 at *
                refine wpAnyH_take (i := 4) (oi := { dst := _, op := _, type := _, pos := _, after := _, guard := _ }) (v := ?_) rfl (by kernel_rfl) (by kernel_rfl) (by kernel_rfl) (fun _ _ _ h => h) (Or.inl ⟨by rfl, ?_⟩) hH ?_
                rotate_left
                · intro w9 hSw
                  try dsimp only at hSw
                  obtain s0 := hSw
                  go_simp
                  try with_reducible rfl
                try simp only [Act.put, List.setIfInBounds_toArray, List.set_cons_zero, List.set_cons_succ]
                refine wpAnyH_ready (rs := [5, 6]) (by kernel_rfl) (by simp) ?_
                refine AllReadyH.cons rfl (fun K hK => ?_) (AllReadyH.cons rfl (fun K hK => ?_) AllReadyH.nil)
                · go_simp
                  have hL := hm4.out v2 w.heap.size hB.size
                  have hZ : Below v2.heap.size v2 (v2.alloc (.cells (madeCells (intCell 0).toArray (100 * 1)) 2)) := (Below.refl _ _).alloc (Nat.le_refl _) _
                  replace hres := hres.now hZ
                  replace hE := hE.now hZ
                  replace hB := hB.trans (hZ.mono hB.size)
                  replace hS := hS.now hZ
                  simp only [Nat.mul_one] at hL hZ hres hE hS hB
                  try simp only [Nat.mul_one]
                  refine hK.out _ _ trivial (fun hH => ?_)
                  clear hK K
                  try simp only [Act.put, List.setIfInBounds_toArray, List.set_cons_zero, List.set_cons_succ]
                  clear hZ
                  obtain ⟨lb, hlb⟩ : ∃ lb, v2.heap.size = lb := ⟨_, rfl⟩
                  rw [hlb] at hL ⊢
                  clear hlb
                  generalize (v2.alloc (.cells (madeCells (intCell 0).toArray (100)) 2)) = v3 at *
                  refine wpAnyH_ready (rs := [6]) (by kernel_rfl) (by simp) ?_
                  refine AllReadyH.cons rfl (fun K hK => ?_) AllReadyH.nil
                  have f0 := hres.frozen 0
                  have f1 := hres.frozen 1
                  have lb2 := hres.lt
                  obtain ⟨r0, r1⟩ := hres.c2
                  have hst : Blk ((v3.setCell ⟨b2, 0, none⟩ (.int .i64 2)).setCell ⟨b2, 1, none⟩ (.slice (some ⟨pb, 0, none⟩) 1 1)) b2 26 #[.int .i64 2, .slice (some ⟨pb, 0, none⟩) 1 1] := by simpa using (hres.set_ 0 (.int .i64 2)).set_ 1 (.slice (some ⟨pb, 0, none⟩) 1 1)
                  replace hE : Own Place.cells 4 45 ((v3.setCell ⟨b2, 0, none⟩ (.int .i64 2)).setCell ⟨b2, 1, none⟩ (.slice (some ⟨pb, 0, none⟩) 1 1)) w.heap.size (.slice (some ⟨pb, 0, none⟩) 1 1) ([⟨0, 1, 0, (y2 : Int)⟩] : List Place) := own_far (own_far hE (p := ⟨b2, 0, none⟩) (hE.ne_blk hres (by decide)) (.int .i64 2)) (p := ⟨b2, 1, none⟩) (hE.ne_blk hres (by decide)) (.slice (some ⟨pb, 0, none⟩) 1 1)
                  replace hL : Own intCell 1 2 ((v3.setCell ⟨b2, 0, none⟩ (.int .i64 2)).setCell ⟨b2, 1, none⟩ (.slice (some ⟨pb, 0, none⟩) 1 1)) w.heap.size (.slice (some ⟨lb, 0, none⟩) 100 100) (List.replicate 100 0) := own_far (own_far hL (p := ⟨b2, 0, none⟩) (hL.ne_blk hres (by decide)) (.int .i64 2)) (p := ⟨b2, 1, none⟩) (hL.ne_blk hres (by decide)) (.slice (some ⟨pb, 0, none⟩) 1 1)
                  replace hB := (hB.setCell (p := ⟨b2, 0, none⟩) hb2w (.int .i64 2)).setCell (p := ⟨b2, 1, none⟩) hb2w (.slice (some ⟨pb, 0, none⟩) 1 1)
                  clear hS
                  go_simp
                  refine hK.out _ _ trivial (fun hH => ?_)
                  clear hK K
                  try simp only [Act.put, List.setIfInBounds_toArray, List.set_cons_zero, List.set_cons_succ]
                  clear f0 f1 lb2 r0 r1 hres
                  generalize ((v3.setCell ⟨b2, 0, none⟩ (.int .i64 2)).setCell ⟨b2, 1, none⟩ (.slice (some ⟨pb, 0, none⟩) 1 1)) = v4 at *
                  refine wpAnyH_take (i := 7) (oi := { dst := _, op := _, type := _, pos := _, after := _, guard := _ }) (v := ?_) rfl (by kernel_rfl) (by kernel_rfl) (by kernel_rfl) (fun _ _ _ h => h) (Or.inl ⟨by rfl, ?_⟩) hH ?_
                  rotate_left
                  · intro w9 hSw
                    try dsimp only at hSw
                    obtain s0 := hSw
                    go_simp
                    try with_reducible rfl
                  try simp only [Act.put, List.setIfInBounds_toArray, List.set_cons_zero, List.set_cons_succ]
                  refine wpAnyH_done (by kernel_rfl) ?_ _
                  clear hH
                  obtain ⟨r0, r1⟩ := hst.c2
                  go_wp2
                  refine bodyPost_ret (v := .tuple #[.agg #[.int .i64 2, .slice (some ⟨pb, 0, none⟩) 1 1], _]) (by simp [results, Try.results38, go_sem, r0, r1]) rfl ⟨2, [⟨0, 1, 0, (y2 : Int)⟩], _, _, (List.replicate 100 0), rfl, by omega, by omega, by simp, by simp <;> omega, hE, hL, hB⟩
                · have f0 := hres.frozen 0
                  have f1 := hres.frozen 1
                  have lb2 := hres.lt
                  obtain ⟨r0, r1⟩ := hres.c2
                  have hst : Blk ((v2.setCell ⟨b2, 0, none⟩ (.int .i64 2)).setCell ⟨b2, 1, none⟩ (.slice (some ⟨pb, 0, none⟩) 1 1)) b2 26 #[.int .i64 2, .slice (some ⟨pb, 0, none⟩) 1 1] := by simpa using (hres.set_ 0 (.int .i64 2)).set_ 1 (.slice (some ⟨pb, 0, none⟩) 1 1)
                  replace hE : Own Place.cells 4 45 ((v2.setCell ⟨b2, 0, none⟩ (.int .i64 2)).setCell ⟨b2, 1, none⟩ (.slice (some ⟨pb, 0, none⟩) 1 1)) w.heap.size (.slice (some ⟨pb, 0, none⟩) 1 1) ([⟨0, 1, 0, (y2 : Int)⟩] : List Place) := own_far (own_far hE (p := ⟨b2, 0, none⟩) (hE.ne_blk hres (by decide)) (.int .i64 2)) (p := ⟨b2, 1, none⟩) (hE.ne_blk hres (by decide)) (.slice (some ⟨pb, 0, none⟩) 1 1)
                  replace hB := (hB.setCell (p := ⟨b2, 0, none⟩) hb2w (.int .i64 2)).setCell (p := ⟨b2, 1, none⟩) hb2w (.slice (some ⟨pb, 0, none⟩) 1 1)
                  clear hS
                  go_simp
                  refine hK.out _ _ trivial (fun hH => ?_)
                  clear hK K
                  try simp only [Act.put, List.setIfInBounds_toArray, List.set_cons_zero, List.set_cons_succ]
                  clear f0 f1 lb2 r0 r1 hres
                  generalize ((v2.setCell ⟨b2, 0, none⟩ (.int .i64 2)).setCell ⟨b2, 1, none⟩ (.slice (some ⟨pb, 0, none⟩) 1 1)) = v5 at *
                  refine wpAnyH_ready (rs := [5]) (by kernel_rfl) (by simp) ?_
                  refine AllReadyH.cons rfl (fun K hK => ?_) AllReadyH.nil
                  go_simp
                  have hL := hm4.out v5 w.heap.size hB.size
                  have hZ : Below v5.heap.size v5 (v5.alloc (.cells (madeCells (intCell 0).toArray (100 * 1)) 2)) := (Below.refl _ _).alloc (Nat.le_refl _) _
                  replace hE := hE.now hZ
                  replace hst := hst.now hZ
                  replace hB := hB.trans (hZ.mono hB.size)
                  simp only [Nat.mul_one] at hL hZ hE hst hB
                  try simp only [Nat.mul_one]
                  refine hK.out _ _ trivial (fun hH => ?_)
                  clear hK K
                  try simp only [Act.put, List.setIfInBounds_toArray, List.set_cons_zero, List.set_cons_succ]
                  clear hZ
                  obtain ⟨lb, hlb⟩ : ∃ lb, v5.heap.size = lb := ⟨_, rfl⟩
                  rw [hlb] at hL ⊢
                  clear hlb
                  generalize (v5.alloc (.cells (madeCells (intCell 0).toArray (100)) 2)) = v6 at *
                  refine wpAnyH_take (i := 7) (oi := { dst := _, op := _, type := _, pos := _, after := _, guard := _ }) (v := ?_) rfl (by kernel_rfl) (by kernel_rfl) (by kernel_rfl) (fun _ _ _ h => h) (Or.inl ⟨by rfl, ?_⟩) hH ?_
                  rotate_left
                  · intro w9 hSw
                    try dsimp only at hSw
                    obtain s0 := hSw
                    go_simp
                    try with_reducible rfl
                  try simp only [Act.put, List.setIfInBounds_toArray, List.set_cons_zero, List.set_cons_succ]
                  refine wpAnyH_done (by kernel_rfl) ?_ _
                  clear hH
                  obtain ⟨r0, r1⟩ := hst.c2
                  go_wp2
                  refine bodyPost_ret (v := .tuple #[.agg #[.int .i64 2, .slice (some ⟨pb, 0, none⟩) 1 1], _]) (by simp [results, Try.results38, go_sem, r0, r1]) rfl ⟨2, [⟨0, 1, 0, (y2 : Int)⟩], _, _, (List.replicate 100 0), rfl, by omega, by omega, by simp, by simp <;> omega, hE, hL, hB⟩
              · go_simp
                have hL := hm4.out v1 w.heap.size hB.size
                have hZ : Below v1.heap.size v1 (v1.alloc (.cells (madeCells (intCell 0).toArray (100 * 1)) 2)) := (Below.refl _ _).alloc (Nat.le_refl _) _
                replace hres := hres.now hZ
                replace hB := hB.trans (hZ.mono hB.size)
                replace hS := hS.now hZ
                simp only [Nat.mul_one] at hL hZ hres hS hB
                try simp only [Nat.mul_one]
                refine hK.out _ _ trivial (fun hH => ?_)
                clear hK K
                try simp only [Act.put, List.setIfInBounds_toArray, List.set_cons_zero, List.set_cons_succ]
                clear hZ
                obtain ⟨lb, hlb⟩ : ∃ lb, v1.heap.size = lb := ⟨_, rfl⟩
                rw [hlb] at hL ⊢
                clear hlb
                generalize (v1.alloc (.cells (madeCells (intCell 0).toArray (100)) 2)) = v7 at *
                refine wpAnyH_ready (rs := [3]) (by kernel_rfl) (by simp) ?_
                refine AllReadyH.cons rfl (fun K hK => ?_) AllReadyH.nil
                go_simp
                have hZ : Below v7.heap.size v7 (v7.alloc (.cells #[.int .i64 0, .int .i64 1, .int .i64 0, .int .i64 (y2 : Nat)] 45)) := (Below.refl _ _).alloc (Nat.le_refl _) _
                have hE : Own Place.cells 4 45 (v7.alloc (.cells #[.int .i64 0, .int .i64 1, .int .i64 0, .int .i64 (y2 : Nat)] 45)) w.heap.size (.slice (some ⟨v7.heap.size, 0, none⟩) 1 1) ([⟨0, 1, 0, (y2 : Int)⟩] : List Place) := own_new1T Place.cells 4 Place.cells_len v7 45 w.heap.size hB.size ⟨0, 1, 0, (y2 : Int)⟩ (by decide)
                replace hres := hres.now hZ
                replace hL := hL.now hZ
                replace hB := hB.trans (hZ.mono hB.size)
                replace hS := hS.now hZ
                refine hK.out _ _ trivial (fun hH => ?_)
                clear hK K
                try simp only [Act.put, List.setIfInBounds_toArray, List.set_cons_zero, List.set_cons_succ]
                clear hZ
                obtain ⟨pb, hpb⟩ : ∃ pb, v7.heap.size = pb := ⟨_, rfl⟩
                rw [hpb] at hE ⊢
                clear hpb
                generalize (v7.alloc (.cells #[.int .i64 0, .int .i64 1, .int .i64 0, .int .i64 (y2 : Nat)] 45)) = v8 at *
                refine wpAnyH_take (i := 4) (oi := { dst := _, op := _, type := _, pos := _, after := _, guard := _ }) (v := ?_) rfl (by kernel_rfl) (by kernel_rfl) (by kernel_rfl) (fun _ _ _ h => h) (Or.inl ⟨by rfl, ?_⟩) hH ?_
                rotate_left
                · intro w9 hSw
                  try dsimp only at hSw
                  obtain s0 := hSw
                  go_simp
                  try with_reducible rfl
                try simp only [Act.put, List.setIfInBounds_toArray, List.set_cons_zero, List.set_cons_succ]
                refine wpAnyH_ready (rs := [6]) (by kernel_rfl) (by simp) ?_
                refine AllReadyH.cons rfl (fun K hK => ?_) AllReadyH.nil
                have f0 := hres.frozen 0
                have f1 := hres.frozen 1
                have lb2 := hres.lt
                obtain ⟨r0, r1⟩ := hres.c2
                have hst : Blk ((v8.setCell ⟨b2, 0, none⟩ (.int .i64 2)).setCell ⟨b2, 1, none⟩ (.slice (some ⟨pb, 0, none⟩) 1 1)) b2 26 #[.int .i64 2, .slice (some ⟨pb, 0, none⟩) 1 1] := by simpa using (hres.set_ 0 (.int .i64 2)).set_ 1 (.slice (some ⟨pb, 0, none⟩) 1 1)
                replace hL : Own intCell 1 2 ((v8.setCell ⟨b2, 0, none⟩ (.int .i64 2)).setCell ⟨b2, 1, none⟩ (.slice (some ⟨pb, 0, none⟩) 1 1)) w.heap.size (.slice (some ⟨lb, 0, none⟩) 100 100) (List.replicate 100 0) := own_far (own_far hL (p := ⟨b2, 0, none⟩) (hL.ne_blk hres (by decide)) (.int .i64 2)) (p := ⟨b2, 1, none⟩) (hL.ne_blk hres (by decide)) (.slice (some ⟨pb, 0, none⟩) 1 1)
                replace hE : Own Place.cells 4 45 ((v8.setCell ⟨b2, 0, none⟩ (.int .i64 2)).setCell ⟨b2, 1, none⟩ (.slice (some ⟨pb, 0, none⟩) 1 1)) w.heap.size (.slice (some ⟨pb, 0, none⟩) 1 1) ([⟨0, 1, 0, (y2 : Int)⟩] : List Place) := own_far (own_far hE (p := ⟨b2, 0, none⟩) (hE.ne_blk hres (by decide)) (.int .i64 2)) (p := ⟨b2, 1, none⟩) (hE.ne_blk hres (by decide)) (.slice (some ⟨pb, 0, none⟩) 1 1)
                replace hB := (hB.setCell (p := ⟨b2, 0, none⟩) hb2w (.int .i64 2)).setCell (p := ⟨b2, 1, none⟩) hb2w (.slice (some ⟨pb, 0, none⟩) 1 1)
                clear hS
                go_simp
                refine hK.out _ _ trivial (fun hH => ?_)
                clear hK K
                try simp only [Act.put, List.setIfInBounds_toArray, List.set_cons_zero, List.set_cons_succ]
                clear f0 f1 lb2 r0 r1 hres
                generalize ((v8.setCell ⟨b2, 0, none⟩ (.int .i64 2)).setCell ⟨b2, 1, none⟩ (.slice (some ⟨pb, 0, none⟩) 1 1)) = v9 at *
                refine wpAnyH_take (i := 7) (oi := { dst := _, op := _, type := _, pos := _, after := _, guard := _ }) (v := ?_) rfl (by kernel_rfl) (by kernel_rfl) (by kernel_rfl) (fun _ _ _ h => h) (Or.inl ⟨by rfl, ?_⟩) hH ?_
                rotate_left
                · intro w9 hSw
                  try dsimp only at hSw
                  obtain s0 := hSw
                  go_simp
                  try with_reducible rfl
                try simp only [Act.put, List.setIfInBounds_toArray, List.set_cons_zero, List.set_cons_succ]
                refine wpAnyH_done (by kernel_rfl) ?_ _
                clear hH
                obtain ⟨r0, r1⟩ := hst.c2
                go_wp2
                refine bodyPost_ret (v := .tuple #[.agg #[.int .i64 2, .slice (some ⟨pb, 0, none⟩) 1 1], _]) (by simp [results, Try.results38, go_sem, r0, r1]) rfl ⟨2, [⟨0, 1, 0, (y2 : Int)⟩], _, _, (List.replicate 100 0), rfl, by omega, by omega, by simp, by simp <;> omega, hE, hL, hB⟩
            · go_simp
              have hL := hm4.out Va w.heap.size hB.size
              have hZ : Below Va.heap.size Va (Va.alloc (.cells (madeCells (intCell 0).toArray (100 * 1)) 2)) := (Below.refl _ _).alloc (Nat.le_refl _) _
              replace hres := hres.now hZ
              replace hB := hB.trans (hZ.mono hB.size)
              replace hS := hS.now hZ
              simp only [Nat.mul_one] at hL hZ hres hS hB
              try simp only [Nat.mul_one]
              refine hK.out _ _ trivial (fun hH => ?_)
              clear hK K
              try simp only [Act.put, List.setIfInBounds_toArray, List.set_cons_zero, List.set_cons_succ]
              clear hZ
              obtain ⟨lb, hlb⟩ : ∃ lb, Va.heap.size = lb := ⟨_, rfl⟩
              rw [hlb] at hL ⊢
              clear hlb
              generalize (Va.alloc (.cells (madeCells (intCell 0).toArray (100)) 2)) = v10 at *
              refine wpAnyH_ready (rs := [1]) (by kernel_rfl) (by simp) ?_
              refine AllReadyH.cons rfl (fun K hK => ?_) AllReadyH.nil
              go_simp
              go_at_call 112
              refine (spec_l01Next g 2 _ hS (by omega)).mono ?_
              rintro e v11 ⟨y2, rfl, hy2, hN⟩
              replace hres := blk_draw hres (by decide) hS hN
              replace hL := own_draw hL (by decide) hS hN
              replace hB := below_draw hB hB.size hgb hN
              replace hS := hN.1
              obtain ⟨y2, rfl⟩ := Int.eq_ofNat_of_zero_le hy2.1
              have hy2b : y2 < 2 := by have := hy2.2.1 (by omega); omega
              clear hN hy2
              refine hK.out _ _ trivial (fun hH => ?_)
              clear hK K
              try simp only [Act.put, List.setIfInBounds_toArray, List.set_cons_zero, List.set_cons_succ]
              refine wpAnyH_take (i := 2) (oi := { dst := _, op := _, type := _, pos := _, after := _, guard := _ }) (v := ?_) rfl (by kernel_rfl) (by kernel_rfl) (by kernel_rfl) (fun _ _ _ h => h) (Or.inl ⟨by rfl, ?_⟩) hH ?_
              rotate_left
              · intro w9 hSw
                try dsimp only at hSw
                obtain s0 := hSw
                go_simp
                try with_reducible rfl
              try simp only [Act.put, List.setIfInBounds_toArray, List.set_cons_zero, List.set_cons_succ]
              refine wpAnyH_ready (rs := [3]) (by kernel_rfl) (by simp) ?_
              refine AllReadyH.cons rfl (fun K hK => ?_) AllReadyH.nil
              go_simp
              have hZ : Below v11.heap.size v11 (v11.alloc (.cells #[.int .i64 0, .int .i64 1, .int .i64 0, .int .i64 (y2 : Nat)] 45)) := (Below.refl _ _).alloc (Nat.le_refl _) _
              have hE : Own Place.cells 4 45 (v11.alloc (.cells #[.int .i64 0, .int .i64 1, .int .i64 0, .int .i64 (y2 : Nat)] 45)) w.heap.size (.slice (some ⟨v11.heap.size, 0, none⟩) 1 1) ([⟨0, 1, 0, (y2 : Int)⟩] : List Place) := own_new1T Place.cells 4 Place.cells_len v11 45 w.heap.size hB.size ⟨0, 1, 0, (y2 : Int)⟩ (by decide)
              replace hres := hres.now hZ
              replace hL := hL.now hZ
              replace hB := hB.trans (hZ.mono hB.size)
              replace hS := hS.now hZ
              refine hK.out _ _ trivial (fun hH => ?_)
              clear hK K
              try simp only [Act.put, List.setIfInBounds_toArray, List.set_cons_zero, List.set_cons_succ]
              clear hZ
              obtain ⟨pb, hpb⟩ : ∃ pb, v11.heap.size = pb := ⟨_, rfl⟩
              rw [hpb] at hE ⊢
              clear hpb
              generalize (v11.alloc (.cells #[.int .i64 0, .int .i64 1, .int .i64 0, .int .i64 (y2 : Nat)] 45)) = v12 at *
              refine wpAnyH_take (i := 4) (oi := { dst := _, op := _, type := _, pos := _, after := _, guard := _ }) (v := ?_) rfl (by kernel_rfl) (by kernel_rfl) (by kernel_rfl) (fun _ _ _ h => h) (Or.inl ⟨by rfl, ?_⟩) hH ?_
              rotate_left
              · intro w9 hSw
                try dsimp only at hSw
                obtain s0 := hSw
                go_simp
                try with_reducible rfl
              try simp only [Act.put, List.setIfInBounds_toArray, List.set_cons_zero, List.set_cons_succ]
              refine wpAnyH_ready (rs := [6]) (by kernel_rfl) (by simp) ?_
              refine AllReadyH.cons rfl (fun K hK => ?_) AllReadyH.nil
              have f0 := hres.frozen 0
              have f1 := hres.frozen 1
              have lb2 := hres.lt
              obtain ⟨r0, r1⟩ := hres.c2
              have hst : Blk ((v12.setCell ⟨b2, 0, none⟩ (.int .i64 2)).setCell ⟨b2, 1, none⟩ (.slice (some ⟨pb, 0, none⟩) 1 1)) b2 26 #[.int .i64 2, .slice (some ⟨pb, 0, none⟩) 1 1] := by simpa using (hres.set_ 0 (.int .i64 2)).set_ 1 (.slice (some ⟨pb, 0, none⟩) 1 1)
              replace hL : Own intCell 1 2 ((v12.setCell ⟨b2, 0, none⟩ (.int .i64 2)).setCell ⟨b2, 1, none⟩ (.slice (some ⟨pb, 0, none⟩) 1 1)) w.heap.size (.slice (some ⟨lb, 0, none⟩) 100 100) (List.replicate 100 0) := own_far (own_far hL (p := ⟨b2, 0, none⟩) (hL.ne_blk hres (by decide)) (.int .i64 2)) (p := ⟨b2, 1, none⟩) (hL.ne_blk hres (by decide)) (.slice (some ⟨pb, 0, none⟩) 1 1)
              replace hE : Own Place.cells 4 45 ((v12.setCell ⟨b2, 0, none⟩ (.int .i64 2)).setCell ⟨b2, 1, none⟩ (.slice (some ⟨pb, 0, none⟩) 1 1)) w.heap.size (.slice (some ⟨pb, 0, none⟩) 1 1) ([⟨0, 1, 0, (y2 : Int)⟩] : List Place) := own_far (own_far hE (p := ⟨b2, 0, none⟩) (hE.ne_blk hres (by decide)) (.int .i64 2)) (p := ⟨b2, 1, none⟩) (hE.ne_blk hres (by decide)) (.slice (some ⟨pb, 0, none⟩) 1 1)
              replace hB := (hB.setCell (p := ⟨b2, 0, none⟩) hb2w (.int .i64 2)).setCell (p := ⟨b2, 1, none⟩) hb2w (.slice (some ⟨pb, 0, none⟩) 1 1)
              clear hS
              go_simp
              refine hK.out _ _ trivial (fun hH => ?_)
              clear hK K
              try simp only [Act.put, List.setIfInBounds_toArray, List.set_cons_zero, List.set_cons_succ]
              clear f0 f1 lb2 r0 r1 hres
              generalize ((v12.setCell ⟨b2, 0, none⟩ (.int .i64 2)).setCell ⟨b2, 1, none⟩ (.slice (some ⟨pb, 0, none⟩) 1 1)) = v13 at *
              refine wpAnyH_take (i := 7) (oi := { dst := _, op := _, type := _, pos := _, after := _, guard := _ }) (v := ?_) rfl (by kernel_rfl) (by kernel_rfl) (by kernel_rfl) (fun _ _ _ h => h) (Or.inl ⟨by rfl, ?_⟩) hH ?_
              rotate_left
              · intro w9 hSw
                try dsimp only at hSw
                obtain s0 := hSw
                go_simp
                try with_reducible rfl
              try simp only [Act.put, List.setIfInBounds_toArray, List.set_cons_zero, List.set_cons_succ]
              refine wpAnyH_done (by kernel_rfl) ?_ _
              clear hH
              obtain ⟨r0, r1⟩ := hst.c2
              go_wp2
              refine bodyPost_ret (v := .tuple #[.agg #[.int .i64 2, .slice (some ⟨pb, 0, none⟩) 1 1], _]) (by simp [results, Try.results38, go_sem, r0, r1]) rfl ⟨2, [⟨0, 1, 0, (y2 : Int)⟩], _, _, (List.replicate 100 0), rfl, by omega, by omega, by simp, by simp <;> omega, hE, hL, hB⟩
          · have q2 : (y == 2) = false := by simpa using hy2
            clear hy0 hy1 hy2
            have l0 := hbox.lt
            obtain ⟨e0, e1⟩ := hbox.c2
            have f0 := hres.frozen 0
            have f1 := hres.frozen 1
            have lb2 := hres.lt
            obtain ⟨r0, r1⟩ := hres.c2
            have hq1 := Lib.hid (own_far (own_far hO (p := ⟨b2, 0, none⟩) (hO.ne_blk hres (by decide)) (.int .i64 ge)) (p := ⟨b2, 1, none⟩) (hO.ne_blk hres (by decide)) (.slice A gp.length c))
            have hq2 := Lib.hid (Own.rebase (base' := w.heap.size) (own_far (own_far hU (p := ⟨b2, 0, none⟩) (hU.ne_blk hres (by decide)) (.int .i64 ge)) (p := ⟨b2, 1, none⟩) (hU.ne_blk hres (by decide)) (.slice A gp.length c)) (by omega))
            have hq3 := Lib.hid ((hB.setCell (p := ⟨b2, 0, none⟩) hb2w (.int .i64 ge)).setCell (p := ⟨b2, 1, none⟩) hb2w (.slice A gp.length c))
            go_wp2
            refine bodyPost_ret (v := .tuple #[.agg #[.int .i64 ge, .slice A gp.length c], _]) (by simp [results, Try.results38, go_sem, r0, r1]) rfl ⟨ge, gp, _, _, _, rfl, by omega, by omega, by omega, by first | omega | (simp; omega), hq1.out, hq2.out, hq3.out⟩
end Go.Proofs.Ytkbhbmoogkjafaa
