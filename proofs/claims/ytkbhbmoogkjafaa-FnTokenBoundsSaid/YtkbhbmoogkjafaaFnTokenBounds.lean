/-
  FnTokenBounds returns true for every input: no place ever has more tokens than its bound, and token distances satisfy the triangle inequality.
  Conditions: none beyond the statement's own.
-/
import Derived.Test.YtkbhbmoogkjafaaTDist
import Derived.Test.YtkbhbmoogkjafaaDrK
import Derived.Test.YtkbhbmoogkjafaaLike
import Derived.Test.YtkbhbmoogkjafaaDice
namespace Go.Proofs.Ytkbhbmoogkjafaa
open Go.RowKit Go.ChangeShapes Go.WideShapes Go.ChangeAt Go.Deep
set_option linter.unusedVariables false
set_option linter.unusedSimpArgs false
set_option maxHeartbeats 32000000 in
set_option maxRecDepth 100000 in
theorem law_FnTokenBounds (cv : Value) (bs : List Int) (w : World) (a0 : Lst byteCell 1 w w.heap.size cv bs) (o0 : Hid (∀ b ∈ bs, 0 ≤ b ∧ b ≤ 255)) :
    Calls Try.prog 5 #[cv] w fun e w' => e = .returned (.bool true) ∧ Below w.heap.size w w' := by
  obtain ⟨CA, cc, rfl⟩ := a0.shape
  by_cases hbig : (4096 : Int) < (bs.length : Int)
  · have hq : Hid (decide ((4096 : Int) < (bs.length : Int)) = true) := decide_eq_true hbig
    clear hbig
    go_enter Try.func5, Try.ntmps5
    go_wp2_with (go_at_call 13; refine (laws_big _ _ _ a0).mono ?_; rintro e w1 ⟨rfl, rfl⟩; rw [hq.out])
    go_ret
    exact ⟨rfl, Below.refl _ _⟩
  · have hq : Hid (decide ((4096 : Int) < (bs.length : Int)) = false) := decide_eq_false hbig
    clear hbig
    go_enter Try.func5, Try.ntmps5
    go_wp2_with fail
    refine (laws_big _ _ _ a0).mono ?_
    rintro e w1 ⟨rfl, rfl⟩
    rw [hq.out]
    go_wp2_with fail
    refine (spec_DrawFireSequence _ bs w a0 o0).mono ?_
    rintro e w0 ⟨ge, gp, v, u, l, rfl, hg0, hg1, hglen, hll, hO1, hU, hB⟩
    obtain ⟨A1, c1, rfl⟩ := hO1.shape
    obtain ⟨UA, uc, rfl⟩ := hU.shape
    have hA2 : Below w0.heap.size w0 (w0.alloc (.cells #[.int .i64 ge, .slice A1 gp.length c1] 26)) := (Below.refl _ _).alloc (Nat.le_refl _) _
    have hbox1 := Blk.newAt w0 (t := 26) (cs := #[.int .i64 ge, .slice A1 gp.length c1]) _ rfl
    go_wp2_with fail
    replace hO1 := hO1.now hA2
    replace hU := hU.now hA2
    replace hB := hB.trans (hA2.mono hB.size)
    generalize w0.alloc (.cells #[.int .i64 ge, .slice A1 gp.length c1] 26) = w0b at *
    generalize w0.heap.size = bg1 at *
    clear hA2
    obtain ⟨M, cd, hF⟩ : ∃ M cd, fireSeqF ge gp l = (M, cd) := ⟨_, _, rfl⟩
    refine (impl_FireSequence _ ge gp _ l _ hO1.lst hU.lst).mono ?_
    rintro e w2 ⟨x, rfl, hx, hB2⟩
    rw [hF] at hx ⊢
    obtain ⟨XA, cx, rfl⟩ := hx.shape
    replace hO1 := hO1.now hB2
    replace hU := hU.now hB2
    replace hbox1 := hbox1.now hB2
    replace hB := hB.trans (hB2.mono hB.size)
    clear hB2
    have l0 := hbox1.lt
    obtain ⟨k0, k1⟩ := hbox1.c2
    go_wp2_with fail
    clear k0 k1 l0
    refine (spec_FireSequence _ ge gp _ l _ hO1.lst hU.lst).mono ?_
    rintro e w3 ⟨y, rfl, hy, hB3⟩
    rw [hF] at hy ⊢
    obtain ⟨YA, cy, rfl⟩ := hy.shape
    replace hO1 := hO1.now hB3
    replace hbox1 := hbox1.now hB3
    replace hx := hx.now hB3
    replace hB := hB.trans (hB3.mono hB.size)
    clear hB3 hU
    have hFH := Lib.hid hF
    clear hF
    go_wp2_with fail
    refine (spec_DrawTokenBound _ bs _ (a0.now hB) o0).mono ?_
    rintro e w4 ⟨he, hp, v2, ti, rfl, hh0, hh1, hplen, hO2, hB4⟩
    obtain ⟨A2, c2, rfl⟩ := hO2.shape
    replace hO1 := hO1.now hB4
    replace hbox1 := hbox1.now hB4
    replace hx := hx.now hB4
    replace hy := hy.now hB4
    replace hB := hB.trans (hB4.mono hB.size)
    clear hB4
    have hA2 : Below w4.heap.size w4 (w4.alloc (.cells #[.int .i64 he, .slice A2 hp.length c2] 26)) := (Below.refl _ _).alloc (Nat.le_refl _) _
    have hbox2 := Blk.newAt w4 (t := 26) (cs := #[.int .i64 he, .slice A2 hp.length c2]) _ rfl
    go_wp2_with fail
    replace hO1 := hO1.now hA2
    replace hbox1 := hbox1.now hA2
    replace hx := hx.now hA2
    replace hy := hy.now hA2
    replace hO2 := hO2.now hA2
    replace hB := hB.trans (hA2.mono hB.size)
    generalize w4.alloc (.cells #[.int .i64 he, .slice A2 hp.length c2] 26) = w4b at *
    generalize w4.heap.size = bg2 at *
    clear hA2
    obtain ⟨t1, t2, hF2⟩ : ∃ t1 t2, tokB he hp ti = (t1, t2) := ⟨_, _, rfl⟩
    refine (impl_TokenBound _ he hp ti _ hO2.lst).mono ?_
    rintro e w5 ⟨rfl, hB5⟩
    rw [hF2]
    replace hO1 := hO1.now hB5
    replace hbox1 := hbox1.now hB5
    replace hx := hx.now hB5
    replace hy := hy.now hB5
    replace hO2 := hO2.now hB5
    replace hbox2 := hbox2.now hB5
    replace hB := hB.trans (hB5.mono hB.size)
    clear hB5
    have l0 := hbox2.lt
    obtain ⟨k0, k1⟩ := hbox2.c2
    go_wp2_with fail
    clear k0 k1 l0
    refine (spec_TokenBound _ he hp ti _ hO2.lst).mono ?_
    rintro e w6 ⟨rfl, hB6⟩
    rw [hF2]
    replace hO1 := hO1.now hB6
    replace hbox1 := hbox1.now hB6
    replace hx := hx.now hB6
    replace hy := hy.now hB6
    replace hB := hB.trans (hB6.mono hB.size)
    clear hB6 hO2 hbox2 hF2 hh0 hh1 hplen
    go_wp2_with fail
    refine (spec_DrawTokenDistance _ bs _ (a0.now hB) o0).mono ?_
    rintro e w7 ⟨ke, kp, v3, fr, tv, rfl, hk0, hk1, hkplen, hO3, hB7⟩
    obtain ⟨A3, c3, rfl⟩ := hO3.shape
    replace hO1 := hO1.now hB7
    replace hbox1 := hbox1.now hB7
    replace hx := hx.now hB7
    replace hy := hy.now hB7
    replace hB := hB.trans (hB7.mono hB.size)
    clear hB7
    have hA2 : Below w7.heap.size w7 (w7.alloc (.cells #[.int .i64 ke, .slice A3 kp.length c3] 26)) := (Below.refl _ _).alloc (Nat.le_refl _) _
    have hbox3 := Blk.newAt w7 (t := 26) (cs := #[.int .i64 ke, .slice A3 kp.length c3]) _ rfl
    go_wp2_with fail
    replace hO1 := hO1.now hA2
    replace hbox1 := hbox1.now hA2
    replace hx := hx.now hA2
    replace hy := hy.now hA2
    replace hO3 := hO3.now hA2
    replace hB := hB.trans (hA2.mono hB.size)
    generalize w7.alloc (.cells #[.int .i64 ke, .slice A3 kp.length c3] 26) = w7b at *
    generalize w7.heap.size = bg3 at *
    clear hA2
    obtain ⟨d1, d2, hF3⟩ : ∃ d1 d2, tokD ke kp fr tv = (d1, d2) := ⟨_, _, rfl⟩
    refine (impl_TokenDistance _ ke kp fr tv _ hO3.lst).mono ?_
    rintro e w8 ⟨rfl, hB8⟩
    rw [hF3]
    replace hO1 := hO1.now hB8
    replace hbox1 := hbox1.now hB8
    replace hx := hx.now hB8
    replace hy := hy.now hB8
    replace hO3 := hO3.now hB8
    replace hbox3 := hbox3.now hB8
    replace hB := hB.trans (hB8.mono hB.size)
    clear hB8
    have l0 := hbox3.lt
    obtain ⟨k0, k1⟩ := hbox3.c2
    go_wp2_with fail
    clear k0 k1 l0
    refine (spec_TokenDistance _ ke kp fr tv _ hO3.lst).mono ?_
    rintro e w9 ⟨rfl, hB9⟩
    rw [hF3]
    replace hO1 := hO1.now hB9
    replace hbox1 := hbox1.now hB9
    replace hx := hx.now hB9
    replace hy := hy.now hB9
    replace hO3 := hO3.now hB9
    replace hbox3 := hbox3.now hB9
    replace hB := hB.trans (hB9.mono hB.size)
    clear hB9
    have hF3H := Lib.hid hF3
    clear hF3
    have hqd : (cd != cd) = false := by simp
    have hq1 : (t1 != t1) = false := by simp
    have hq2 : (t2 != t2) = false := by simp
    have hq3 : (d1 != d1) = false := by simp
    have hq4 : (d2 != d2) = false := by simp
    go_wp2_with fail
    refine (laws_likeInts _ _ M M _ hx.lst hy.lst).mono ?_
    rintro e wA ⟨rfl, hB10⟩
    rw [decide_eq_true rfl]
    replace hO1 := hO1.now hB10
    replace hbox1 := hbox1.now hB10
    replace hx := hx.now hB10
    replace hO3 := hO3.now hB10
    replace hbox3 := hbox3.now hB10
    replace hB := hB.trans (hB10.mono hB.size)
    clear hB10 hy
    by_cases hd0 : d2 = 0
    · have hz := tokD_zero (ge := ke) (gp := kp) (f := fr) (t := tv) (by rw [hF3H.out]; exact hd0)
      have hke := (okGraph_ev hz.1).1
      have hd0H := Lib.hid hd0
      have q0 : (d2 == 0) = true := by simp [hd0]
      clear hz hd0
      have hDw : Below wA.heap.size wA wA.drew := Below.drew (Below.refl _ wA)
      obtain ⟨k0, k1⟩ := hbox3.c2
      replace k0 := cell_keep k0 hDw
      have l0 : bg3 < wA.drew.heap.size := hbox3.lt
      have hsA : wA.heap.size ≤ wA.drew.heap.size := hDw.size
      go_wp2_with fail
      refine wp_region_held_drew (S := fun w' => w'.cell? ⟨bg3, 0, none⟩ = some (.int .i64 ke)) (by kernel_rfl) k0 (fun hH => ?_)
      refine wpAnyH_take (i := 0) (oi := { dst := _, op := _, type := _, pos := _, after := _, guard := _ }) (v := ?_) rfl (by kernel_rfl) (by kernel_rfl) (by kernel_rfl) (fun _ _ _ h => h) (Or.inl ⟨by rfl, ?_⟩) hH ?_
      rotate_left
      · intro w9 hSw
        try dsimp only at hSw
        obtain s0 := hSw
        go_simp
        try with_reducible rfl
      try simp only [Act.put, List.setIfInBounds_toArray, List.set_cons_zero, List.set_cons_succ]
      refine wpAnyH_take (i := 2) (oi := { dst := _, op := _, type := _, pos := _, after := _, guard := _ }) (v := ?_) rfl (by kernel_rfl) (by kernel_rfl) (by kernel_rfl) (fun _ _ _ h => h) (Or.inl ⟨by rfl, ?_⟩) hH ?_
      rotate_left
      · intro w9 hSw
        try dsimp only at hSw
        obtain s0 := hSw
        go_simp
        try with_reducible rfl
      try simp only [Act.put, List.setIfInBounds_toArray, List.set_cons_zero, List.set_cons_succ]
      refine wpAnyH_take (i := 3) (oi := { dst := _, op := _, type := _, pos := _, after := _, guard := _ }) (v := ?_) rfl (by kernel_rfl) (by kernel_rfl) (by kernel_rfl) (fun _ _ _ h => h) (Or.inl ⟨by rfl, ?_⟩) hH ?_
      rotate_left
      · intro w9 hSw
        try dsimp only at hSw
        obtain s0 := hSw
        go_simp
        try with_reducible rfl
      try simp only [Act.put, List.setIfInBounds_toArray, List.set_cons_zero, List.set_cons_succ]
      refine wpAnyH_ready (rs := [1]) (by kernel_rfl) (by simp) ?_
      refine AllReadyH.cons rfl (fun K hK => ?_) AllReadyH.nil
      go_simp
      go_at_call 47
      refine (laws_roll _ bs _ _ ((a0.now hB).now hDw) o0).mono ?_
      rintro e v1 ⟨rfl, hDi, hb1⟩
      have k0_1 := cell_keep (w := wA.drew) k0 hb1
      replace hDw := hDw.trans (Below.mono (w := wA.drew) hb1 hsA)
      refine hK.out _ _ k0_1 (fun hH => ?_)
      clear hK K
      try simp only [Act.put, List.setIfInBounds_toArray, List.set_cons_zero, List.set_cons_succ]
      refine wpAnyH_ready (rs := [4]) (by kernel_rfl) (by simp) ?_
      refine AllReadyH.cons rfl (fun K hK => ?_) AllReadyH.nil
      go_simp
      go_at_call 48
      refine (laws_below _ ke _ hDi hke (by omega)).mono ?_
      rintro e v2 ⟨vi, rfl, hv0, hv1, hDi2, hG2⟩
      replace k0_1 := hG2.cell k0_1 (fun e => by injection e with e; simp only at e; omega)
      replace hDw : Below wA.heap.size wA v2 := hDw.grown hG2 hDw.size (fun k e => by injection e with e; omega)
      clear hDi hDi2 hG2
      refine hK.out _ _ k0_1 (fun hH => ?_)
      clear hK K
      try simp only [Act.put, List.setIfInBounds_toArray, List.set_cons_zero, List.set_cons_succ]
      refine wpAnyH_take (i := 5) (oi := { dst := _, op := _, type := _, pos := _, after := _, guard := _ }) (v := ?_) rfl (by kernel_rfl) (by kernel_rfl) (by kernel_rfl) (fun _ _ _ h => h) (Or.inl ⟨by rfl, ?_⟩) hH ?_
      rotate_left
      · intro w9 hSw
        try dsimp only at hSw
        obtain s0 := hSw
        go_simp
        try with_reducible rfl
      try simp only [Act.put, List.setIfInBounds_toArray, List.set_cons_zero, List.set_cons_succ]
      refine wpAnyH_done (by kernel_rfl) ?_ _
      clear hH k0 k1 k0_1 l0
      replace hO1 := hO1.now hDw
      replace hbox1 := hbox1.now hDw
      replace hx := hx.now hDw
      replace hO3 := hO3.now hDw
      replace hbox3 := hbox3.now hDw
      replace hB := hB.trans (hDw.mono hB.size)
      clear hDw hsA
      obtain ⟨k0, k1⟩ := hbox3.c2
      have l0 := hbox3.lt
      go_wp2_with fail
      clear k0 k1 l0
      obtain ⟨a1, a2, hFa⟩ : ∃ a1 a2, tokD ke kp fr vi = (a1, a2) := ⟨_, _, rfl⟩
      refine (impl_TokenDistance _ ke kp fr vi _ hO3.lst).mono ?_
      rintro e wb ⟨rfl, hB11⟩
      rw [hFa]
      replace hO1 := hO1.now hB11
      replace hbox1 := hbox1.now hB11
      replace hx := hx.now hB11
      replace hO3 := hO3.now hB11
      replace hbox3 := hbox3.now hB11
      replace hB := hB.trans (hB11.mono hB.size)
      clear hB11
      obtain ⟨k0, k1⟩ := hbox3.c2
      have l0 := hbox3.lt
      go_wp2_with fail
      clear k0 k1 l0
      obtain ⟨b1, b2, hFb⟩ : ∃ b1 b2, tokD ke kp vi tv = (b1, b2) := ⟨_, _, rfl⟩
      refine (impl_TokenDistance _ ke kp vi tv _ hO3.lst).mono ?_
      rintro e wc ⟨rfl, hB11⟩
      rw [hFb]
      replace hO1 := hO1.now hB11
      replace hbox1 := hbox1.now hB11
      replace hx := hx.now hB11
      replace hB := hB.trans (hB11.mono hB.size)
      clear hB11 hO3 hbox3
      have hsa := tokD_small (ge := ke) (gp := kp) (f := fr) (t := vi)
      have hsb := tokD_small (ge := ke) (gp := kp) (f := vi) (t := tv)
      have htri := tokD_tri (ge := ke) (gp := kp) (f := fr) (t := tv) (v := vi) (by rw [hF3H.out]; exact hd0H.out)
      rw [hFa] at hsa htri
      rw [hFb] at hsb htri
      rw [hF3H.out] at htri
      simp only at hsa hsb htri
      have wab : IntKind.i64.wrap (a1 + b1) = a1 + b1 := IntWalk.i64_in _ (by omega)
      clear hFa hFb hsa hsb hke
      obtain ⟨wZ, rfl⟩ : ∃ wZ : World, wZ = wc := ⟨_, rfl⟩
      by_cases ha : a2 = 0
      · have qa : (a2 == 0) = true := by simp [ha]
        by_cases hb : b2 = 0
        · have qb : (b2 == 0) = true := by simp [hb]
          have qk : ¬ a1 + b1 < d1 := by have := htri ha hb; omega
          clear htri ha hb
          by_cases hc0 : cd = 0
          · subst hc0
            obtain ⟨hg, hml, hall⟩ := tok_law hFH.out
            have hmlH := Lib.hid hml
            have hallH := Lib.hid hall
            clear hg hml hall hFH
            go_wp2
            go_loopw [27, 28, 29] (fun q _ _ wr => ∃ k : Nat, k ≤ gp.length ∧ q = .int .i64 k ∧ Below wZ.heap.size wZ wr) (fun q _ _ _ => gp.length - (intOf q).toNat)
            case atStart => exact ⟨0, Nat.zero_le _, rfl, Below.refl _ _⟩
            case round =>
              obtain ⟨k, hk, rfl, hBr⟩ := hrel
              obtain ⟨k0, k1⟩ := (hbox1.now hBr).c2
              have l0 := (hbox1.now hBr).lt
              by_cases hlt : k < gp.length
              · have hltI : (k : Int) < (gp.length : Int) := by omega
                go_wp2_with fail
                clear k0 k1 l0
                refine (impl_TokenBound _ ge gp (k : Int) _ (hO1.now hBr).lst).mono ?_
                rintro e wq ⟨rfl, hBq⟩
                obtain ⟨s1, s2, hTB⟩ : ∃ s1 s2, tokB ge gp (k : Int) = (s1, s2) := ⟨_, _, rfl⟩
                rw [hTB]
                replace hBq := hBr.trans (hBq.mono hBr.size)
                have hkM : k < M.length := by rw [hmlH.out]; exact hlt
                by_cases hs : s2 = 0
                · have qs : (s2 == 0) = true := by simp [hs]
                  have hle := hallH.out k hkM (by rw [hTB]; exact hs)
                  rw [hTB] at hle
                  simp only at hle
                  obtain ⟨sb, so, hSA, _, z0⟩ := ints_at (hx.now hBq).lst k hkM
                  cases hSA
                  obtain ⟨mv, hmv⟩ : ∃ mv, M[k] = mv := ⟨_, rfl⟩
                  rw [hmv] at z0 hle
                  have hnl : ¬ s1 < mv := by omega
                  have i1 : (0 : Int) ≤ (k : Int) := by omega
                  have i2 : (k : Int) < (M.length : Int) := by omega
                  clear hmv hle hs hTB
                  go_wp2
                  go_roundw
                  case rel => exact ⟨k + 1, hlt, by go_num, hBq⟩
                  case measure => simp [intOf]; omega
                · have qs : (s2 == 0) = false := by simpa using hs
                  clear hs hTB
                  go_wp2
                  go_roundw
                  case rel => exact ⟨k + 1, hlt, by go_num, hBq⟩
                  case measure => simp [intOf]; omega
              · obtain rfl : k = gp.length := by omega
                go_wp2
                go_ret
                exact ⟨rfl, hB.trans (hBr.mono hB.size)⟩
          · have qc : (cd == 0) = false := by simpa using hc0
            clear hc0
            go_wp2
            go_loopw [27, 28, 29] (fun _ _ _ wr => Below wZ.heap.size wZ wr) (fun _ _ _ _ => 0)
            case atStart => exact Below.refl _ _
            case round =>
              have hBr : Below wZ.heap.size wZ wr := hrel
              go_wp2
              go_ret
              exact ⟨rfl, hB.trans (hBr.mono hB.size)⟩
        · have qb : (b2 == 0) = false := by simpa using hb
          clear htri ha hb
          by_cases hc0 : cd = 0
          · subst hc0
            obtain ⟨hg, hml, hall⟩ := tok_law hFH.out
            have hmlH := Lib.hid hml
            have hallH := Lib.hid hall
            clear hg hml hall hFH
            go_wp2
            go_loopw [27, 28, 29] (fun q _ _ wr => ∃ k : Nat, k ≤ gp.length ∧ q = .int .i64 k ∧ Below wZ.heap.size wZ wr) (fun q _ _ _ => gp.length - (intOf q).toNat)
            case atStart => exact ⟨0, Nat.zero_le _, rfl, Below.refl _ _⟩
            case round =>
              obtain ⟨k, hk, rfl, hBr⟩ := hrel
              obtain ⟨k0, k1⟩ := (hbox1.now hBr).c2
              have l0 := (hbox1.now hBr).lt
              by_cases hlt : k < gp.length
              · have hltI : (k : Int) < (gp.length : Int) := by omega
                go_wp2_with fail
                clear k0 k1 l0
                refine (impl_TokenBound _ ge gp (k : Int) _ (hO1.now hBr).lst).mono ?_
                rintro e wq ⟨rfl, hBq⟩
                obtain ⟨s1, s2, hTB⟩ : ∃ s1 s2, tokB ge gp (k : Int) = (s1, s2) := ⟨_, _, rfl⟩
                rw [hTB]
                replace hBq := hBr.trans (hBq.mono hBr.size)
                have hkM : k < M.length := by rw [hmlH.out]; exact hlt
                by_cases hs : s2 = 0
                · have qs : (s2 == 0) = true := by simp [hs]
                  have hle := hallH.out k hkM (by rw [hTB]; exact hs)
                  rw [hTB] at hle
                  simp only at hle
                  obtain ⟨sb, so, hSA, _, z0⟩ := ints_at (hx.now hBq).lst k hkM
                  cases hSA
                  obtain ⟨mv, hmv⟩ : ∃ mv, M[k] = mv := ⟨_, rfl⟩
                  rw [hmv] at z0 hle
                  have hnl : ¬ s1 < mv := by omega
                  have i1 : (0 : Int) ≤ (k : Int) := by omega
                  have i2 : (k : Int) < (M.length : Int) := by omega
                  clear hmv hle hs hTB
                  go_wp2
                  go_roundw
                  case rel => exact ⟨k + 1, hlt, by go_num, hBq⟩
                  case measure => simp [intOf]; omega
                · have qs : (s2 == 0) = false := by simpa using hs
                  clear hs hTB
                  go_wp2
                  go_roundw
                  case rel => exact ⟨k + 1, hlt, by go_num, hBq⟩
                  case measure => simp [intOf]; omega
              · obtain rfl : k = gp.length := by omega
                go_wp2
                go_ret
                exact ⟨rfl, hB.trans (hBr.mono hB.size)⟩
          · have qc : (cd == 0) = false := by simpa using hc0
            clear hc0
            go_wp2
            go_loopw [27, 28, 29] (fun _ _ _ wr => Below wZ.heap.size wZ wr) (fun _ _ _ _ => 0)
            case atStart => exact Below.refl _ _
            case round =>
              have hBr : Below wZ.heap.size wZ wr := hrel
              go_wp2
              go_ret
              exact ⟨rfl, hB.trans (hBr.mono hB.size)⟩
      · have qa : (a2 == 0) = false := by simpa using ha
        clear htri ha
        by_cases hc0 : cd = 0
        · subst hc0
          obtain ⟨hg, hml, hall⟩ := tok_law hFH.out
          have hmlH := Lib.hid hml
          have hallH := Lib.hid hall
          clear hg hml hall hFH
          go_wp2
          go_loopw [27, 28, 29] (fun q _ _ wr => ∃ k : Nat, k ≤ gp.length ∧ q = .int .i64 k ∧ Below wZ.heap.size wZ wr) (fun q _ _ _ => gp.length - (intOf q).toNat)
          case atStart => exact ⟨0, Nat.zero_le _, rfl, Below.refl _ _⟩
          case round =>
            obtain ⟨k, hk, rfl, hBr⟩ := hrel
            obtain ⟨k0, k1⟩ := (hbox1.now hBr).c2
            have l0 := (hbox1.now hBr).lt
            by_cases hlt : k < gp.length
            · have hltI : (k : Int) < (gp.length : Int) := by omega
              go_wp2_with fail
              clear k0 k1 l0
              refine (impl_TokenBound _ ge gp (k : Int) _ (hO1.now hBr).lst).mono ?_
              rintro e wq ⟨rfl, hBq⟩
              obtain ⟨s1, s2, hTB⟩ : ∃ s1 s2, tokB ge gp (k : Int) = (s1, s2) := ⟨_, _, rfl⟩
              rw [hTB]
              replace hBq := hBr.trans (hBq.mono hBr.size)
              have hkM : k < M.length := by rw [hmlH.out]; exact hlt
              by_cases hs : s2 = 0
              · have qs : (s2 == 0) = true := by simp [hs]
                have hle := hallH.out k hkM (by rw [hTB]; exact hs)
                rw [hTB] at hle
                simp only at hle
                obtain ⟨sb, so, hSA, _, z0⟩ := ints_at (hx.now hBq).lst k hkM
                cases hSA
                obtain ⟨mv, hmv⟩ : ∃ mv, M[k] = mv := ⟨_, rfl⟩
                rw [hmv] at z0 hle
                have hnl : ¬ s1 < mv := by omega
                have i1 : (0 : Int) ≤ (k : Int) := by omega
                have i2 : (k : Int) < (M.length : Int) := by omega
                clear hmv hle hs hTB
                go_wp2
                go_roundw
                case rel => exact ⟨k + 1, hlt, by go_num, hBq⟩
                case measure => simp [intOf]; omega
              · have qs : (s2 == 0) = false := by simpa using hs
                clear hs hTB
                go_wp2
                go_roundw
                case rel => exact ⟨k + 1, hlt, by go_num, hBq⟩
                case measure => simp [intOf]; omega
            · obtain rfl : k = gp.length := by omega
              go_wp2
              go_ret
              exact ⟨rfl, hB.trans (hBr.mono hB.size)⟩
        · have qc : (cd == 0) = false := by simpa using hc0
          clear hc0
          go_wp2
          go_loopw [27, 28, 29] (fun _ _ _ wr => Below wZ.heap.size wZ wr) (fun _ _ _ _ => 0)
          case atStart => exact Below.refl _ _
          case round =>
            have hBr : Below wZ.heap.size wZ wr := hrel
            go_wp2
            go_ret
            exact ⟨rfl, hB.trans (hBr.mono hB.size)⟩
    · have q0 : (d2 == 0) = false := by simpa using hd0
      clear hd0 hO3 hbox3
      obtain ⟨wZ, rfl⟩ : ∃ wZ : World, wZ = wA := ⟨_, rfl⟩
      by_cases hc0 : cd = 0
      · subst hc0
        obtain ⟨hg, hml, hall⟩ := tok_law hFH.out
        have hmlH := Lib.hid hml
        have hallH := Lib.hid hall
        clear hg hml hall hFH
        go_wp2
        go_loopw [27, 28, 29] (fun q _ _ wr => ∃ k : Nat, k ≤ gp.length ∧ q = .int .i64 k ∧ Below wZ.heap.size wZ wr) (fun q _ _ _ => gp.length - (intOf q).toNat)
        case atStart => exact ⟨0, Nat.zero_le _, rfl, Below.refl _ _⟩
        case round =>
          obtain ⟨k, hk, rfl, hBr⟩ := hrel
          obtain ⟨k0, k1⟩ := (hbox1.now hBr).c2
          have l0 := (hbox1.now hBr).lt
          by_cases hlt : k < gp.length
          · have hltI : (k : Int) < (gp.length : Int) := by omega
            go_wp2_with fail
            clear k0 k1 l0
            refine (impl_TokenBound _ ge gp (k : Int) _ (hO1.now hBr).lst).mono ?_
            rintro e wq ⟨rfl, hBq⟩
            obtain ⟨s1, s2, hTB⟩ : ∃ s1 s2, tokB ge gp (k : Int) = (s1, s2) := ⟨_, _, rfl⟩
            rw [hTB]
            replace hBq := hBr.trans (hBq.mono hBr.size)
            have hkM : k < M.length := by rw [hmlH.out]; exact hlt
            by_cases hs : s2 = 0
            · have qs : (s2 == 0) = true := by simp [hs]
              have hle := hallH.out k hkM (by rw [hTB]; exact hs)
              rw [hTB] at hle
              simp only at hle
              obtain ⟨sb, so, hSA, _, z0⟩ := ints_at (hx.now hBq).lst k hkM
              cases hSA
              obtain ⟨mv, hmv⟩ : ∃ mv, M[k] = mv := ⟨_, rfl⟩
              rw [hmv] at z0 hle
              have hnl : ¬ s1 < mv := by omega
              have i1 : (0 : Int) ≤ (k : Int) := by omega
              have i2 : (k : Int) < (M.length : Int) := by omega
              clear hmv hle hs hTB
              go_wp2
              go_roundw
              case rel => exact ⟨k + 1, hlt, by go_num, hBq⟩
              case measure => simp [intOf]; omega
            · have qs : (s2 == 0) = false := by simpa using hs
              clear hs hTB
              go_wp2
              go_roundw
              case rel => exact ⟨k + 1, hlt, by go_num, hBq⟩
              case measure => simp [intOf]; omega
          · obtain rfl : k = gp.length := by omega
            go_wp2
            go_ret
            exact ⟨rfl, hB.trans (hBr.mono hB.size)⟩
      · have qc : (cd == 0) = false := by simpa using hc0
        clear hc0
        go_wp2
        go_loopw [27, 28, 29] (fun _ _ _ wr => Below wZ.heap.size wZ wr) (fun _ _ _ _ => 0)
        case atStart => exact Below.refl _ _
        case round =>
          have hBr : Below wZ.heap.size wZ wr := hrel
          go_wp2
          go_ret
          exact ⟨rfl, hB.trans (hBr.mono hB.size)⟩
theorem FnTokenBounds_own : ownKnob Try.prog.godebug = none := by kernel_rfl
theorem FnTokenBounds_laidOut : laidOutB Try.prog = true := by kernel_rfl
set_option maxRecDepth 100000 in
theorem FnTokenBounds_lifted (os : Os) (started : os.Started) (H : Type) (enc : TypeId × Value → H) :
    ReturnsInHanded {} Try.checked os 5 .any (Rows.fnTokenBoundsSpec.pre6 enc Try.prog Try.f5 Rows.fnTokenBoundsRow.domain false) (Rows.fnTokenBoundsSpec.post enc Try.prog Try.f5 false true false false) := by
  refine returnsInHanded_of_change (C := Try.checked) FnTokenBounds_own started (by kernel_rfl) Try.func5
    (ChangeSpec.witness6 (enc := enc) (C := Try.checked) false ⟨#[], #[.slice none 0 0], []⟩ 8 (by kernel_rfl) (by kernel_rfl) (by kernel_rfl) (by kernel_rfl)) ?_
  intro W base args ds gs before hval0 hW hcnd _
  have hval : ∀ (j : Nat) t v, Try.f5.params[j]? = some t → args[j]? = some v → Value.okWide Try.prog W .any base t v := hval0
  have hW' := hW
  obtain ⟨p, q, hA0, hV, rfl, hfz, hnd⟩ := hW
  have hA : DataW.TrodAll enc Try.prog W 0 (fun _ => true) true Try.f5.params.toList args.toList ds p := hA0
  rw [Try.params5] at hA hval
  obtain ⟨v0, vs0, d0, ds0, p0, q0, hargs, rfl, rfl, h0, r0⟩ := trodAll_cons hA
  obtain ⟨rfl, rfl, rfl⟩ := trodAll_nil r0
  obtain rfl : args = #[v0] := by cases args; simp_all
  obtain ⟨rfl, rfl⟩ := trodVars_none hV
  have k0 := h0
  have lt0 : ∀ x ∈ p0, x.block < W.heap.size := by obtain ⟨m, hm⟩ := k0; exact DataW.trod_lt m _ _ _ hm
  obtain ⟨A0, n0, c0, rfl⟩ := okWide_slice Try.underlying22 (hval 0 22 v0 rfl rfl)
  obtain ⟨fuel0, hf0⟩ := h0
  obtain ⟨l0, a0, o0⟩ := open_bytes Try.underlying22 Try.underlying5 (by kernel_rfl) (show DataW.trod enc Try.prog W 0 (fun _ => true) true fuel0 22 [_] = _ by simpa [Value.cells] using hf0)
  clear hA0 hval0
  refine (law_FnTokenBounds _ _ W a0 o0).mono fun e W' ⟨he, bel⟩ => ?_
  subst he
  exact ⟨_, rfl, _, _, _, [], _, [], hW', trodAll_mk1 (shut_bool Try.underlying4 _), (trodAll_cons_mk (Below.trod FnTokenBounds_laidOut (by kernel_rfl) (of_decide_eq_true (by kernel_rfl)) k0 bel lt0) trodAll_mk0), rfl, bel.frame _, fun h => by cases h⟩
theorem FnTokenBounds_over : Rows.fnTokenBoundsRow.holds Try.pinned (OpenSpec.ofChange Rows.fnTokenBoundsSpec) :=
  OpenClaim.holds_of_wide 5 Try.f5 rfl rfl rfl rfl rfl rfl rfl ⟨rfl, rfl, rfl, rfl, rfl⟩ rfl rfl rfl rfl rfl (by kernel_rfl) Try.func5 (by kernel_rfl)
    (of_decide_eq_true (by kernel_rfl)) (by unfold Func.isWrapper; first | (rw [if_pos (by decide +kernel)]; kernel_rfl) | (rw [if_neg (by decide +kernel)]; exact ⟨rfl, rfl⟩))
    (fun os started H enc _ => FnTokenBounds_lifted os started H enc)
/-- The given statement. -/
theorem FnTokenBounds_proved : Rows.FnTokenBoundsSaid := FnTokenBounds_over
end Go.Proofs.Ytkbhbmoogkjafaa
