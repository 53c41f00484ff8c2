/-
  FnStarted returns true for every input: no started firing comes before its start nor before the free one, and none is late by more than the greatest start.
  Conditions: none beyond the statement's own.
-/
import Derived.Test.YtpkkkigiiaegfaaFnStartP
import Derived.Test.YtpkkkigiiaegfaaLike
import Derived.Test.YtpkkkigiiaegfaaDrG
namespace Go.Proofs.Ytpkkkigiiaegfaa
open Go.RowKit Go.ChangeShapes Go.WideShapes Go.ChangeAt Go.Deep
set_option linter.unusedVariables false
set_option linter.unusedSimpArgs false
theorem max_ifS (a b : Int) : max a b = if a < b then b else a := by by_cases h : a < b <;> simp [h] <;> omega
set_option maxHeartbeats 16000000 in
set_option maxRecDepth 100000 in
theorem law_FnStarted (cv : Value) (bs : List Int) (w : World) (a0 : Lst byteCell 1 w w.heap.size cv bs) (o0 : Hid (∀ b ∈ bs, 0 ≤ b ∧ b ≤ 255)) :
    Calls Try.prog 9 #[cv] w fun e w' => e = .returned (.bool true) ∧ Below w.heap.size w w' := by
  obtain ⟨CA, cc, rfl⟩ := a0.shape
  by_cases hbig : (4096 : Int) < (bs.length : Int)
  · have hq : Hid (decide ((4096 : Int) < (bs.length : Int)) = true) := decide_eq_true hbig
    clear hbig
    go_enter Try.func9, Try.ntmps9
    go_wp2_with (go_at_call 38; refine (laws_big _ _ _ a0).mono ?_; rintro e w1 ⟨rfl, rfl⟩; rw [hq.out])
    go_ret
    exact ⟨rfl, Below.refl _ _⟩
  · have hq : Hid (decide ((4096 : Int) < (bs.length : Int)) = false) := decide_eq_false hbig
    clear hbig
    go_enter Try.func9, Try.ntmps9
    go_wp2_with fail
    refine (laws_big _ _ _ a0).mono ?_
    rintro e w1 ⟨rfl, rfl⟩
    rw [hq.out]
    go_wp2_with fail
    refine (spec_DrawStartedTimes _ bs w a0 o0).mono ?_
    rintro e w0 ⟨ge, gp, v, N, u, s, rfl, hg0, hg1, hglen, hn1, hn2, hll, hO, hU, hB⟩
    obtain ⟨A, c, rfl⟩ := hO.shape
    obtain ⟨UA, uc, rfl⟩ := hU.shape
    have hA2 : Below w0.heap.size w0 (w0.alloc (.cells #[.int .i64 ge, .slice A gp.length c] 32)) := (Below.refl _ _).alloc (Nat.le_refl _) _
    have hbox := Blk.newAt w0 (t := 32) (cs := #[.int .i64 ge, .slice A gp.length c]) _ rfl
    go_wp2_with fail
    replace hO := hO.now hA2
    replace hU := hU.now hA2
    replace hB := hB.trans (hA2.mono hB.size)
    generalize w0.alloc (.cells #[.int .i64 ge, .slice A gp.length c] 32) = W2 at *
    generalize w0.heap.size = bg at *
    clear hA2
    obtain ⟨F, cd, hF⟩ : ∃ F cd, startF ge gp N s = (F, cd) := ⟨_, _, rfl⟩
    refine (impl_StartedTimes _ ge gp N _ s _ hO.lst hU.lst).mono ?_
    rintro e w2 ⟨x, rfl, hx, hB2⟩
    rw [hF] at hx ⊢
    obtain ⟨X, cx, rfl⟩ := hx.shape
    replace hO := hO.now hB2
    replace hU := hU.now hB2
    replace hbox := hbox.now hB2
    replace hB := hB.trans (hB2.mono hB.size)
    clear hB2
    have l0 := hbox.lt
    obtain ⟨k0, k1⟩ := hbox.c2
    go_wp2_with fail
    clear k0 k1 l0
    refine (spec_StartedTimes _ ge gp N _ s _ hO.lst hU.lst).mono ?_
    rintro e w3 ⟨y, rfl, hy, hB3⟩
    rw [hF] at hy ⊢
    obtain ⟨Y, cy, rfl⟩ := hy.shape
    replace hO := hO.now hB3
    replace hU := hU.now hB3
    replace hx := hx.now hB3
    replace hbox := hbox.now hB3
    replace hB := hB.trans (hB3.mono hB.size)
    clear hB3
    have hcd : (cd != cd) = false := by simp
    have hFH := Lib.hid hF
    clear hF
    go_wp2_with fail
    refine (laws_likeTables9 _ _ F F _ hx.lst hy.lst).mono ?_
    rintro e w4 ⟨rfl, hB4⟩
    rw [decide_eq_true rfl]
    replace hO := hO.now hB4
    replace hU := hU.now hB4
    replace hx := hx.now hB4
    replace hbox := hbox.now hB4
    replace hB := hB.trans (hB4.mono hB.size)
    clear hB4 hy hcd
    by_cases hc0 : cd = 0
    · subst hc0
      obtain ⟨n, rfl, hn10, hsl, hsb, T, hT, hTl, hF50, hFr, hTr, hTb, hall⟩ := start_law hFH.out
      have hslH := Lib.hid hsl
      have hTlH := Lib.hid hTl
      have hsbH := Lib.hid hsb
      have hFrH := Lib.hid hFr
      have hTrH := Lib.hid hTr
      have hTbH := Lib.hid hTb
      have hTH := Lib.hid hT
      have hallH := Lib.hid hall
      clear hsl hTl hsb hFr hTr hTb hT hall
      have l0 := hbox.lt
      obtain ⟨k0, k1⟩ := hbox.c2
      go_wp2_with fail
      clear k0 k1 l0
      refine (impl_FiringTimes _ (n : Int) gp N _ hO.lst).mono ?_
      rintro e w5 ⟨y, rfl, hy, hB5⟩
      rw [hTH.out] at hy ⊢
      obtain ⟨Y, cy, rfl⟩ := hy.shape
      replace hU := hU.now hB5
      replace hx := hx.now hB5
      replace hB := hB.trans (hB5.mono hB.size)
      clear hB5 hbox hO hTH
      have hTl : T.length ≤ 50 := by rw [hTlH.out]; exact hF50
      go_wp2
      go_loopw [12, 13] (fun mv i wr => ∃ k : Nat, k ≤ s.length ∧ i = .int .i64 k ∧ mv = .int .i64 (mostS (s.take k)) ∧ Below w5.heap.size w5 wr) (fun _ i _ => s.length - (intOf i).toNat)
      case atStart => exact ⟨0, Nat.zero_le _, rfl, by simp [mostS], Below.refl _ _⟩
      case round =>
        obtain ⟨k, hk, rfl, rfl, hBr⟩ := hrel
        obtain ⟨wd, rfl⟩ : ∃ wd : World, wd = wr := ⟨_, rfl⟩
        by_cases hlt : k < s.length
        · obtain ⟨sb, so, hSA, _, z0⟩ := ints_at (hU.now hBr).lst k hlt
          subst hSA
          have hms := mostS_succ s k hlt
          rw [max_ifS] at hms
          obtain ⟨mo, hmo⟩ : ∃ mo, mostS (s.take k) = mo := ⟨_, rfl⟩
          obtain ⟨sv, hsv⟩ : ∃ sv, s[k] = sv := ⟨_, rfl⟩
          rw [hsv] at z0 hms
          rw [hmo] at hms ⊢
          have hmsH := Lib.hid hms
          clear hsv hmo hms
          by_cases hms1 : mo < sv
          · go_wp2
            go_roundw
            case rel => exact ⟨k + 1, hlt, by go_num, by rw [hmsH.out, if_pos hms1]; (try simp [max_ifS, hms1]), hBr⟩
            case measure => simp [intOf]; omega
          · go_wp2
            go_roundw
            case rel => exact ⟨k + 1, hlt, by go_num, by rw [hmsH.out, if_neg hms1]; (try simp [max_ifS, hms1]), hBr⟩
            case measure => simp [intOf]; omega
        · obtain rfl : k = s.length := by omega
          rw [List.take_length]
          obtain ⟨⟨m0, m1⟩, _⟩ := mostS_bd (c := 1000000) (by omega) hsbH.out s.length (Nat.le_refl _)
          rw [List.take_length] at m0 m1
          replace hU := hU.now hBr
          replace hx := hx.now hBr
          replace hy := hy.now hBr
          replace hB := hB.trans (hBr.mono hB.size)
          obtain ⟨mo, hmo⟩ : ∃ mo, mostS s = mo := ⟨_, rfl⟩
          rw [hmo] at m0 m1 ⊢
          have hmoH := Lib.hid hmo
          clear hmo hBr hk
          have hne : ((F.length : Int) != (T.length : Int)) = false := by rw [hTlH.out]; simp
          go_wp2
          go_loopw [14, 15] (fun i _ wr => ∃ k : Nat, k ≤ F.length ∧ i = .int .i64 k ∧ Below wd.heap.size wd wr) (fun i _ _ => F.length - (intOf i).toNat)
          case atStart => exact ⟨0, Nat.zero_le _, rfl, Below.refl _ _⟩
          case round =>
            obtain ⟨k, hk, rfl, hBk⟩ := hrel
            obtain ⟨we, rfl⟩ : ∃ we : World, we = wr := ⟨_, rfl⟩
            by_cases hlt : k < F.length
            · have hltT : k < T.length := by rw [hTlH.out]; exact hlt
              go_wp2
              go_loopw [15] (fun i wr => ∃ e : Nat, e ≤ s.length ∧ i = .int .i64 e ∧ Below wd.heap.size wd wr) (fun i _ => s.length - (intOf i).toNat)
              case atStart => exact ⟨0, Nat.zero_le _, rfl, hBk⟩
              case round =>
                clear hBk
                obtain ⟨e, he, rfl, hBk⟩ := hrel
                by_cases hlt2 : e < s.length
                · have hRl := hFrH.out _ (List.getElem_mem hlt)
                  have hQl := hTrH.out _ (List.getElem_mem hltT)
                  have he1 : e < F[k].length := by rw [hRl, ← hslH.out]; exact hlt2
                  have he2 : e < T[k].length := by rw [hQl, ← hslH.out]; exact hlt2
                  obtain ⟨c1, c2, c3⟩ := hallH.out k hlt hltT e hlt2 he1 he2
                  have hyb := hTbH.out _ (List.getElem_mem hltT) _ (List.getElem_mem he2)
                  rw [hmoH.out] at c3
                  obtain ⟨sb, so, hSA, _, z2⟩ := ints_at (hU.now hBk).lst e hlt2
                  obtain ⟨xb, xo, cx', r, hxv, _, z0, hr⟩ := (hx.now hBk).lst.row k hlt
                  obtain ⟨yb, yo, cy', r', hyv, _, z3, hr'⟩ := (hy.now hBk).lst.row k hltT
                  obtain ⟨R, rn, rc⟩ := r
                  obtain ⟨R', rn', rc'⟩ := r'
                  simp only [Ref.val] at z0 z3 hr hr'
                  obtain ⟨A1, c4, hv1⟩ := hr.shape
                  obtain ⟨A2, c5, hv2⟩ := hr'.shape
                  obtain ⟨rfl, rfl, rfl⟩ : R = A1 ∧ rn = F[k].length ∧ rc = c4 := by injection hv1 with a1 a2 a3; exact ⟨a1, a2, a3⟩
                  obtain ⟨rfl, rfl, rfl⟩ : R' = A2 ∧ rn' = T[k].length ∧ rc' = c5 := by injection hv2 with a1 a2 a3; exact ⟨a1, a2, a3⟩
                  obtain ⟨rb, ro, hRA, _, z1⟩ := ints_at hr e he1
                  obtain ⟨qb, qo, hQA, _, z4⟩ := ints_at hr' e he2
                  subst hRA hQA
                  cases hSA
                  cases hxv
                  cases hyv
                  rw [hRl] at z0
                  rw [hQl] at z3
                  have heN : (e : Int) < (n : Int) := by rw [hRl] at he1; omega
                  obtain ⟨xv, hxv⟩ : ∃ xv, F[k][e] = xv := ⟨_, rfl⟩
                  obtain ⟨yv, hyv⟩ : ∃ yv, T[k][e] = yv := ⟨_, rfl⟩
                  obtain ⟨sv, hsv⟩ : ∃ sv, s[e] = sv := ⟨_, rfl⟩
                  rw [hxv] at z1 c1 c2 c3
                  rw [hyv] at z4 c2 c3 hyb
                  rw [hsv] at z2 c1
                  clear hxv hyv hsv hv1 hv2 hr hr' hRl hQl he1 he2
                  have hBd : Below wr.heap.size wr wr.drew := Below.drew (Below.refl _ wr)
                  have hBk' := Lib.hid (hBk.trans (hBd.mono hBk.size))
                  replace z0 := cell_keep z0 hBd
                  replace z1 := cell_keep z1 hBd
                  replace z2 := cell_keep z2 hBd
                  replace z3 := cell_keep z3 hBd
                  replace z4 := cell_keep z4 hBd
                  clear hBd hBk
                  have i1 : (0 : Int) ≤ (k : Int) := by omega
                  have i2 : (k : Int) < (F.length : Int) := by omega
                  have i3 : (k : Int) < (T.length : Int) := by omega
                  have i4 : (0 : Int) ≤ (e : Int) := by omega
                  have i5 : (e : Int) < (s.length : Int) := by omega
                  have n1 : decide (xv < sv) = false := decide_eq_false (by omega)
                  have n2 : decide (xv < yv) = false := decide_eq_false (by omega)
                  have wm : IntKind.i64.wrap (yv + mo) = yv + mo := IntWalk.i64_in _ (by omega)
                  have n3 : decide (yv + mo < xv) = false := decide_eq_false (by omega)
                  clear c1 c2 c3 hyb
                  go_wp2_with fail
                  refine wp_region_held_drew (S := fun w' => w'.cell? ⟨xb, xo + k, none⟩ = some (.slice (some ⟨rb, ro, none⟩) n rc) ∧ w'.cell? ⟨rb, ro + e, none⟩ = some (.int .i64 xv) ∧ w'.cell? ⟨sb, so + e, none⟩ = some (.int .i64 sv) ∧ w'.cell? ⟨yb, yo + k, none⟩ = some (.slice (some ⟨qb, qo, none⟩) n rc') ∧ w'.cell? ⟨qb, qo + e, none⟩ = some (.int .i64 yv)) (by kernel_rfl) ⟨z0, z1, z2, z3, z4⟩ (fun hH => ?_)
                  refine wpAnyH_take (i := 0) (oi := { dst := _, op := _, type := _, pos := _, after := _, guard := _ }) (v := ?_) rfl (by kernel_rfl) (by kernel_rfl) (by kernel_rfl) (fun _ _ _ h => h) (Or.inl ⟨by rfl, ?_⟩) hH ?_
                  rotate_left
                  · intro w9 hSw
                    try dsimp only at hSw
                    obtain ⟨s0, s1, s2, s3, s4⟩ := hSw
                    go_simp
                    try with_reducible rfl
                  try simp only [Act.put, List.setIfInBounds_toArray, List.set_cons_zero, List.set_cons_succ]
                  refine wpAnyH_take (i := 1) (oi := { dst := _, op := _, type := _, pos := _, after := _, guard := _ }) (v := ?_) rfl (by kernel_rfl) (by kernel_rfl) (by kernel_rfl) (fun _ _ _ h => h) (Or.inl ⟨by rfl, ?_⟩) hH ?_
                  rotate_left
                  · intro w9 hSw
                    try dsimp only at hSw
                    obtain ⟨s0, s1, s2, s3, s4⟩ := hSw
                    go_simp
                    try with_reducible rfl
                  try simp only [Act.put, List.setIfInBounds_toArray, List.set_cons_zero, List.set_cons_succ]
                  refine wpAnyH_take (i := 2) (oi := { dst := _, op := _, type := _, pos := _, after := _, guard := _ }) (v := ?_) rfl (by kernel_rfl) (by kernel_rfl) (by kernel_rfl) (fun _ _ _ h => h) (Or.inl ⟨by rfl, ?_⟩) hH ?_
                  rotate_left
                  · intro w9 hSw
                    try dsimp only at hSw
                    obtain ⟨s0, s1, s2, s3, s4⟩ := hSw
                    go_simp
                    try with_reducible rfl
                  try simp only [Act.put, List.setIfInBounds_toArray, List.set_cons_zero, List.set_cons_succ]
                  refine wpAnyH_take (i := 3) (oi := { dst := _, op := _, type := _, pos := _, after := _, guard := _ }) (v := ?_) rfl (by kernel_rfl) (by kernel_rfl) (by kernel_rfl) (fun _ _ _ h => h) (Or.inl ⟨by rfl, ?_⟩) hH ?_
                  rotate_left
                  · intro w9 hSw
                    try dsimp only at hSw
                    obtain ⟨s0, s1, s2, s3, s4⟩ := hSw
                    go_simp
                    try with_reducible rfl
                  try simp only [Act.put, List.setIfInBounds_toArray, List.set_cons_zero, List.set_cons_succ]
                  refine wpAnyH_take (i := 4) (oi := { dst := _, op := _, type := _, pos := _, after := _, guard := _ }) (v := ?_) rfl (by kernel_rfl) (by kernel_rfl) (by kernel_rfl) (fun _ _ _ h => h) (Or.inl ⟨by rfl, ?_⟩) hH ?_
                  rotate_left
                  · intro w9 hSw
                    try dsimp only at hSw
                    obtain ⟨s0, s1, s2, s3, s4⟩ := hSw
                    go_simp
                    try with_reducible rfl
                  try simp only [Act.put, List.setIfInBounds_toArray, List.set_cons_zero, List.set_cons_succ]
                  refine wpAnyH_take (i := 5) (oi := { dst := _, op := _, type := _, pos := _, after := _, guard := _ }) (v := ?_) rfl (by kernel_rfl) (by kernel_rfl) (by kernel_rfl) (fun _ _ _ h => h) (Or.inl ⟨by rfl, ?_⟩) hH ?_
                  rotate_left
                  · intro w9 hSw
                    try dsimp only at hSw
                    obtain ⟨s0, s1, s2, s3, s4⟩ := hSw
                    go_simp
                    try with_reducible rfl
                  try simp only [Act.put, List.setIfInBounds_toArray, List.set_cons_zero, List.set_cons_succ]
                  refine wpAnyH_take (i := 6) (oi := { dst := _, op := _, type := _, pos := _, after := _, guard := _ }) (v := ?_) rfl (by kernel_rfl) (by kernel_rfl) (by kernel_rfl) (fun _ _ _ h => h) (Or.inl ⟨by rfl, ?_⟩) hH ?_
                  rotate_left
                  · intro w9 hSw
                    try dsimp only at hSw
                    obtain ⟨s0, s1, s2, s3, s4⟩ := hSw
                    go_simp
                    try with_reducible rfl
                  try simp only [Act.put, List.setIfInBounds_toArray, List.set_cons_zero, List.set_cons_succ]
                  refine wpAnyH_take (i := 7) (oi := { dst := _, op := _, type := _, pos := _, after := _, guard := _ }) (v := ?_) rfl (by kernel_rfl) (by kernel_rfl) (by kernel_rfl) (fun _ _ _ h => h) (Or.inl ⟨by rfl, ?_⟩) hH ?_
                  rotate_left
                  · intro w9 hSw
                    try dsimp only at hSw
                    obtain ⟨s0, s1, s2, s3, s4⟩ := hSw
                    go_simp
                    try with_reducible rfl
                  try simp only [Act.put, List.setIfInBounds_toArray, List.set_cons_zero, List.set_cons_succ]
                  refine wpAnyH_take (i := 8) (oi := { dst := _, op := _, type := _, pos := _, after := _, guard := _ }) (v := ?_) rfl (by kernel_rfl) (by kernel_rfl) (by kernel_rfl) (fun _ _ _ h => h) (Or.inl ⟨by rfl, ?_⟩) hH ?_
                  rotate_left
                  · intro w9 hSw
                    try dsimp only at hSw
                    obtain ⟨s0, s1, s2, s3, s4⟩ := hSw
                    go_simp
                    try with_reducible rfl
                  try simp only [Act.put, List.setIfInBounds_toArray, List.set_cons_zero, List.set_cons_succ]
                  refine wpAnyH_take (i := 9) (oi := { dst := _, op := _, type := _, pos := _, after := _, guard := _ }) (v := ?_) rfl (by kernel_rfl) (by kernel_rfl) (by kernel_rfl) (fun _ _ _ h => h) (Or.inl ⟨by rfl, ?_⟩) hH ?_
                  rotate_left
                  · intro w9 hSw
                    try dsimp only at hSw
                    obtain ⟨s0, s1, s2, s3, s4⟩ := hSw
                    go_simp
                    try with_reducible rfl
                  try simp only [Act.put, List.setIfInBounds_toArray, List.set_cons_zero, List.set_cons_succ]
                  refine wpAnyH_take (i := 10) (oi := { dst := _, op := _, type := _, pos := _, after := _, guard := _ }) (v := ?_) rfl (by kernel_rfl) (by kernel_rfl) (by kernel_rfl) (fun _ _ _ h => h) (Or.inl ⟨by rfl, ?_⟩) hH ?_
                  rotate_left
                  · intro w9 hSw
                    try dsimp only at hSw
                    obtain ⟨s0, s1, s2, s3, s4⟩ := hSw
                    go_simp
                    try with_reducible rfl
                  try simp only [Act.put, List.setIfInBounds_toArray, List.set_cons_zero, List.set_cons_succ]
                  refine wpAnyH_take (i := 11) (oi := { dst := _, op := _, type := _, pos := _, after := _, guard := _ }) (v := ?_) rfl (by kernel_rfl) (by kernel_rfl) (by kernel_rfl) (fun _ _ _ h => h) (Or.inl ⟨by rfl, ?_⟩) hH ?_
                  rotate_left
                  · intro w9 hSw
                    try dsimp only at hSw
                    obtain ⟨s0, s1, s2, s3, s4⟩ := hSw
                    go_simp
                    try with_reducible rfl
                  try simp only [Act.put, List.setIfInBounds_toArray, List.set_cons_zero, List.set_cons_succ]
                  refine wpAnyH_take (i := 12) (oi := { dst := _, op := _, type := _, pos := _, after := _, guard := _ }) (v := ?_) rfl (by kernel_rfl) (by kernel_rfl) (by kernel_rfl) (fun _ _ _ h => h) (Or.inl ⟨by rfl, ?_⟩) hH ?_
                  rotate_left
                  · intro w9 hSw
                    try dsimp only at hSw
                    obtain ⟨s0, s1, s2, s3, s4⟩ := hSw
                    go_simp
                    try with_reducible rfl
                  try simp only [Act.put, List.setIfInBounds_toArray, List.set_cons_zero, List.set_cons_succ]
                  refine wpAnyH_take (i := 13) (oi := { dst := _, op := _, type := _, pos := _, after := _, guard := _ }) (v := ?_) rfl (by kernel_rfl) (by kernel_rfl) (by kernel_rfl) (fun _ _ _ h => h) (Or.inl ⟨by rfl, ?_⟩) hH ?_
                  rotate_left
                  · intro w9 hSw
                    try dsimp only at hSw
                    obtain ⟨s0, s1, s2, s3, s4⟩ := hSw
                    go_simp
                    try with_reducible rfl
                  try simp only [Act.put, List.setIfInBounds_toArray, List.set_cons_zero, List.set_cons_succ]
                  refine wpAnyH_take (i := 14) (oi := { dst := _, op := _, type := _, pos := _, after := _, guard := _ }) (v := ?_) rfl (by kernel_rfl) (by kernel_rfl) (by kernel_rfl) (fun _ _ _ h => h) (Or.inl ⟨by rfl, ?_⟩) hH ?_
                  rotate_left
                  · intro w9 hSw
                    try dsimp only at hSw
                    obtain ⟨s0, s1, s2, s3, s4⟩ := hSw
                    go_simp
                    try with_reducible rfl
                  try simp only [Act.put, List.setIfInBounds_toArray, List.set_cons_zero, List.set_cons_succ]
                  refine wpAnyH_take (i := 15) (oi := { dst := _, op := _, type := _, pos := _, after := _, guard := _ }) (v := ?_) rfl (by kernel_rfl) (by kernel_rfl) (by kernel_rfl) (fun _ _ _ h => h) (Or.inl ⟨by rfl, ?_⟩) hH ?_
                  rotate_left
                  · intro w9 hSw
                    try dsimp only at hSw
                    obtain ⟨s0, s1, s2, s3, s4⟩ := hSw
                    go_simp
                    try with_reducible rfl
                  try simp only [Act.put, List.setIfInBounds_toArray, List.set_cons_zero, List.set_cons_succ]
                  refine wpAnyH_take (i := 16) (oi := { dst := _, op := _, type := _, pos := _, after := _, guard := _ }) (v := ?_) rfl (by kernel_rfl) (by kernel_rfl) (by kernel_rfl) (fun _ _ _ h => h) (Or.inl ⟨by rfl, ?_⟩) hH ?_
                  rotate_left
                  · intro w9 hSw
                    try dsimp only at hSw
                    obtain ⟨s0, s1, s2, s3, s4⟩ := hSw
                    go_simp
                    try with_reducible rfl
                  try simp only [Act.put, List.setIfInBounds_toArray, List.set_cons_zero, List.set_cons_succ]
                  refine wpAnyH_take (i := 17) (oi := { dst := _, op := _, type := _, pos := _, after := _, guard := _ }) (v := ?_) rfl (by kernel_rfl) (by kernel_rfl) (by kernel_rfl) (fun _ _ _ h => h) (Or.inl ⟨by rfl, ?_⟩) hH ?_
                  rotate_left
                  · intro w9 hSw
                    try dsimp only at hSw
                    obtain ⟨s0, s1, s2, s3, s4⟩ := hSw
                    go_simp
                    try with_reducible rfl
                  try simp only [Act.put, List.setIfInBounds_toArray, List.set_cons_zero, List.set_cons_succ]
                  refine wpAnyH_take (i := 18) (oi := { dst := _, op := _, type := _, pos := _, after := _, guard := _ }) (v := ?_) rfl (by kernel_rfl) (by kernel_rfl) (by kernel_rfl) (fun _ _ _ h => h) (Or.inl ⟨by rfl, ?_⟩) hH ?_
                  rotate_left
                  · intro w9 hSw
                    try dsimp only at hSw
                    obtain ⟨s0, s1, s2, s3, s4⟩ := hSw
                    go_simp
                    try with_reducible rfl
                  try simp only [Act.put, List.setIfInBounds_toArray, List.set_cons_zero, List.set_cons_succ]
                  refine wpAnyH_take (i := 19) (oi := { dst := _, op := _, type := _, pos := _, after := _, guard := _ }) (v := ?_) rfl (by kernel_rfl) (by kernel_rfl) (by kernel_rfl) (fun _ _ _ h => h) (Or.inl ⟨by rfl, ?_⟩) hH ?_
                  rotate_left
                  · intro w9 hSw
                    try dsimp only at hSw
                    obtain ⟨s0, s1, s2, s3, s4⟩ := hSw
                    go_simp
                    try with_reducible rfl
                  try simp only [Act.put, List.setIfInBounds_toArray, List.set_cons_zero, List.set_cons_succ]
                  refine wpAnyH_take (i := 20) (oi := { dst := _, op := _, type := _, pos := _, after := _, guard := _ }) (v := ?_) rfl (by kernel_rfl) (by kernel_rfl) (by kernel_rfl) (fun _ _ _ h => h) (Or.inl ⟨by rfl, ?_⟩) hH ?_
                  rotate_left
                  · intro w9 hSw
                    try dsimp only at hSw
                    obtain ⟨s0, s1, s2, s3, s4⟩ := hSw
                    go_simp
                    try with_reducible rfl
                  try simp only [Act.put, List.setIfInBounds_toArray, List.set_cons_zero, List.set_cons_succ]
                  refine wpAnyH_take (i := 21) (oi := { dst := _, op := _, type := _, pos := _, after := _, guard := _ }) (v := ?_) rfl (by kernel_rfl) (by kernel_rfl) (by kernel_rfl) (fun _ _ _ h => h) (Or.inl ⟨by rfl, ?_⟩) hH ?_
                  rotate_left
                  · intro w9 hSw
                    try dsimp only at hSw
                    obtain ⟨s0, s1, s2, s3, s4⟩ := hSw
                    go_simp
                    try with_reducible rfl
                  try simp only [Act.put, List.setIfInBounds_toArray, List.set_cons_zero, List.set_cons_succ]
                  refine wpAnyH_take (i := 22) (oi := { dst := _, op := _, type := _, pos := _, after := _, guard := _ }) (v := ?_) rfl (by kernel_rfl) (by kernel_rfl) (by kernel_rfl) (fun _ _ _ h => h) (Or.inl ⟨by rfl, ?_⟩) hH ?_
                  rotate_left
                  · intro w9 hSw
                    try dsimp only at hSw
                    obtain ⟨s0, s1, s2, s3, s4⟩ := hSw
                    go_simp
                    try with_reducible rfl
                  try simp only [Act.put, List.setIfInBounds_toArray, List.set_cons_zero, List.set_cons_succ]
                  refine wpAnyH_take (i := 23) (oi := { dst := _, op := _, type := _, pos := _, after := _, guard := _ }) (v := ?_) rfl (by kernel_rfl) (by kernel_rfl) (by kernel_rfl) (fun _ _ _ h => h) (Or.inl ⟨by rfl, ?_⟩) hH ?_
                  rotate_left
                  · intro w9 hSw
                    try dsimp only at hSw
                    obtain ⟨s0, s1, s2, s3, s4⟩ := hSw
                    go_simp
                    try with_reducible rfl
                  try simp only [Act.put, List.setIfInBounds_toArray, List.set_cons_zero, List.set_cons_succ]
                  refine wpAnyH_take (i := 24) (oi := { dst := _, op := _, type := _, pos := _, after := _, guard := _ }) (v := ?_) rfl (by kernel_rfl) (by kernel_rfl) (by kernel_rfl) (fun _ _ _ h => h) (Or.inl ⟨by rfl, ?_⟩) hH ?_
                  rotate_left
                  · intro w9 hSw
                    try dsimp only at hSw
                    obtain ⟨s0, s1, s2, s3, s4⟩ := hSw
                    go_simp
                    try with_reducible rfl
                  try simp only [Act.put, List.setIfInBounds_toArray, List.set_cons_zero, List.set_cons_succ]
                  refine wpAnyH_take (i := 25) (oi := { dst := _, op := _, type := _, pos := _, after := _, guard := _ }) (v := ?_) rfl (by kernel_rfl) (by kernel_rfl) (by kernel_rfl) (fun _ _ _ h => h) (Or.inl ⟨by rfl, ?_⟩) hH ?_
                  rotate_left
                  · intro w9 hSw
                    try dsimp only at hSw
                    obtain ⟨s0, s1, s2, s3, s4⟩ := hSw
                    go_simp
                    try with_reducible rfl
                  try simp only [Act.put, List.setIfInBounds_toArray, List.set_cons_zero, List.set_cons_succ]
                  refine wpAnyH_take (i := 26) (oi := { dst := _, op := _, type := _, pos := _, after := _, guard := _ }) (v := ?_) rfl (by kernel_rfl) (by kernel_rfl) (by kernel_rfl) (fun _ _ _ h => h) (Or.inl ⟨by rfl, ?_⟩) hH ?_
                  rotate_left
                  · intro w9 hSw
                    try dsimp only at hSw
                    obtain ⟨s0, s1, s2, s3, s4⟩ := hSw
                    go_simp
                    try with_reducible rfl
                  try simp only [Act.put, List.setIfInBounds_toArray, List.set_cons_zero, List.set_cons_succ]
                  refine wpAnyH_take (i := 27) (oi := { dst := _, op := _, type := _, pos := _, after := _, guard := _ }) (v := ?_) rfl (by kernel_rfl) (by kernel_rfl) (by kernel_rfl) (fun _ _ _ h => h) (Or.inl ⟨by rfl, ?_⟩) hH ?_
                  rotate_left
                  · intro w9 hSw
                    try dsimp only at hSw
                    obtain ⟨s0, s1, s2, s3, s4⟩ := hSw
                    go_simp
                    try with_reducible rfl
                  try simp only [Act.put, List.setIfInBounds_toArray, List.set_cons_zero, List.set_cons_succ]
                  refine wpAnyH_take (i := 28) (oi := { dst := _, op := _, type := _, pos := _, after := _, guard := _ }) (v := ?_) rfl (by kernel_rfl) (by kernel_rfl) (by kernel_rfl) (fun _ _ _ h => h) (Or.inl ⟨by rfl, ?_⟩) hH ?_
                  rotate_left
                  · intro w9 hSw
                    try dsimp only at hSw
                    obtain ⟨s0, s1, s2, s3, s4⟩ := hSw
                    go_simp
                    try with_reducible rfl
                  try simp only [Act.put, List.setIfInBounds_toArray, List.set_cons_zero, List.set_cons_succ]
                  refine wpAnyH_take (i := 29) (oi := { dst := _, op := _, type := _, pos := _, after := _, guard := _ }) (v := ?_) rfl (by kernel_rfl) (by kernel_rfl) (by kernel_rfl) (fun _ _ _ h => h) (Or.inl ⟨by rfl, ?_⟩) hH ?_
                  rotate_left
                  · intro w9 hSw
                    try dsimp only at hSw
                    obtain ⟨s0, s1, s2, s3, s4⟩ := hSw
                    go_simp
                    try with_reducible rfl
                  try simp only [Act.put, List.setIfInBounds_toArray, List.set_cons_zero, List.set_cons_succ]
                  refine wpAnyH_take (i := 30) (oi := { dst := _, op := _, type := _, pos := _, after := _, guard := _ }) (v := ?_) rfl (by kernel_rfl) (by kernel_rfl) (by kernel_rfl) (fun _ _ _ h => h) (Or.inl ⟨by rfl, ?_⟩) hH ?_
                  rotate_left
                  · intro w9 hSw
                    try dsimp only at hSw
                    obtain ⟨s0, s1, s2, s3, s4⟩ := hSw
                    go_simp
                    try with_reducible rfl
                  try simp only [Act.put, List.setIfInBounds_toArray, List.set_cons_zero, List.set_cons_succ]
                  refine wpAnyH_take (i := 31) (oi := { dst := _, op := _, type := _, pos := _, after := _, guard := _ }) (v := ?_) rfl (by kernel_rfl) (by kernel_rfl) (by kernel_rfl) (fun _ _ _ h => h) (Or.inl ⟨by rfl, ?_⟩) hH ?_
                  rotate_left
                  · intro w9 hSw
                    try dsimp only at hSw
                    obtain ⟨s0, s1, s2, s3, s4⟩ := hSw
                    go_simp
                    try with_reducible rfl
                  try simp only [Act.put, List.setIfInBounds_toArray, List.set_cons_zero, List.set_cons_succ]
                  refine wpAnyH_take (i := 32) (oi := { dst := _, op := _, type := _, pos := _, after := _, guard := _ }) (v := ?_) rfl (by kernel_rfl) (by kernel_rfl) (by kernel_rfl) (fun _ _ _ h => h) (Or.inl ⟨by rfl, ?_⟩) hH ?_
                  rotate_left
                  · intro w9 hSw
                    try dsimp only at hSw
                    obtain ⟨s0, s1, s2, s3, s4⟩ := hSw
                    go_simp
                    try with_reducible rfl
                  try simp only [Act.put, List.setIfInBounds_toArray, List.set_cons_zero, List.set_cons_succ]
                  refine wpAnyH_take (i := 33) (oi := { dst := _, op := _, type := _, pos := _, after := _, guard := _ }) (v := ?_) rfl (by kernel_rfl) (by kernel_rfl) (by kernel_rfl) (fun _ _ _ h => h) (Or.inl ⟨by rfl, ?_⟩) hH ?_
                  rotate_left
                  · intro w9 hSw
                    try dsimp only at hSw
                    obtain ⟨s0, s1, s2, s3, s4⟩ := hSw
                    go_simp
                    try with_reducible rfl
                  try simp only [Act.put, List.setIfInBounds_toArray, List.set_cons_zero, List.set_cons_succ]
                  refine wpAnyH_take (i := 34) (oi := { dst := _, op := _, type := _, pos := _, after := _, guard := _ }) (v := ?_) rfl (by kernel_rfl) (by kernel_rfl) (by kernel_rfl) (fun _ _ _ h => h) (Or.inl ⟨by rfl, ?_⟩) hH ?_
                  rotate_left
                  · intro w9 hSw
                    try dsimp only at hSw
                    obtain ⟨s0, s1, s2, s3, s4⟩ := hSw
                    go_simp
                    try with_reducible rfl
                  try simp only [Act.put, List.setIfInBounds_toArray, List.set_cons_zero, List.set_cons_succ]
                  refine wpAnyH_take (i := 35) (oi := { dst := _, op := _, type := _, pos := _, after := _, guard := _ }) (v := ?_) rfl (by kernel_rfl) (by kernel_rfl) (by kernel_rfl) (fun _ _ _ h => h) (Or.inl ⟨by rfl, ?_⟩) hH ?_
                  rotate_left
                  · intro w9 hSw
                    try dsimp only at hSw
                    obtain ⟨s0, s1, s2, s3, s4⟩ := hSw
                    go_simp
                    try with_reducible rfl
                  try simp only [Act.put, List.setIfInBounds_toArray, List.set_cons_zero, List.set_cons_succ]
                  refine wpAnyH_take (i := 36) (oi := { dst := _, op := _, type := _, pos := _, after := _, guard := _ }) (v := ?_) rfl (by kernel_rfl) (by kernel_rfl) (by kernel_rfl) (fun _ _ _ h => h) (Or.inl ⟨by rfl, ?_⟩) hH ?_
                  rotate_left
                  · intro w9 hSw
                    try dsimp only at hSw
                    obtain ⟨s0, s1, s2, s3, s4⟩ := hSw
                    go_simp
                    try with_reducible rfl
                  try simp only [Act.put, List.setIfInBounds_toArray, List.set_cons_zero, List.set_cons_succ]
                  refine wpAnyH_take (i := 37) (oi := { dst := _, op := _, type := _, pos := _, after := _, guard := _ }) (v := ?_) rfl (by kernel_rfl) (by kernel_rfl) (by kernel_rfl) (fun _ _ _ h => h) (Or.inl ⟨by rfl, ?_⟩) hH ?_
                  rotate_left
                  · intro w9 hSw
                    try dsimp only at hSw
                    obtain ⟨s0, s1, s2, s3, s4⟩ := hSw
                    go_simp
                    try with_reducible rfl
                  try simp only [Act.put, List.setIfInBounds_toArray, List.set_cons_zero, List.set_cons_succ]
                  refine wpAnyH_take (i := 38) (oi := { dst := _, op := _, type := _, pos := _, after := _, guard := _ }) (v := ?_) rfl (by kernel_rfl) (by kernel_rfl) (by kernel_rfl) (fun _ _ _ h => h) (Or.inl ⟨by rfl, ?_⟩) hH ?_
                  rotate_left
                  · intro w9 hSw
                    try dsimp only at hSw
                    obtain ⟨s0, s1, s2, s3, s4⟩ := hSw
                    go_simp
                    try with_reducible rfl
                  try simp only [Act.put, List.setIfInBounds_toArray, List.set_cons_zero, List.set_cons_succ]
                  refine wpAnyH_take (i := 39) (oi := { dst := _, op := _, type := _, pos := _, after := _, guard := _ }) (v := ?_) rfl (by kernel_rfl) (by kernel_rfl) (by kernel_rfl) (fun _ _ _ h => h) (Or.inl ⟨by rfl, ?_⟩) hH ?_
                  rotate_left
                  · intro w9 hSw
                    try dsimp only at hSw
                    obtain ⟨s0, s1, s2, s3, s4⟩ := hSw
                    go_simp
                    try with_reducible rfl
                  try simp only [Act.put, List.setIfInBounds_toArray, List.set_cons_zero, List.set_cons_succ]
                  refine wpAnyH_take (i := 40) (oi := { dst := _, op := _, type := _, pos := _, after := _, guard := _ }) (v := ?_) rfl (by kernel_rfl) (by kernel_rfl) (by kernel_rfl) (fun _ _ _ h => h) (Or.inl ⟨by rfl, ?_⟩) hH ?_
                  rotate_left
                  · intro w9 hSw
                    try dsimp only at hSw
                    obtain ⟨s0, s1, s2, s3, s4⟩ := hSw
                    go_simp
                    try with_reducible rfl
                  try simp only [Act.put, List.setIfInBounds_toArray, List.set_cons_zero, List.set_cons_succ]
                  refine wpAnyH_take (i := 41) (oi := { dst := _, op := _, type := _, pos := _, after := _, guard := _ }) (v := ?_) rfl (by kernel_rfl) (by kernel_rfl) (by kernel_rfl) (fun _ _ _ h => h) (Or.inl ⟨by rfl, ?_⟩) hH ?_
                  rotate_left
                  · intro w9 hSw
                    try dsimp only at hSw
                    obtain ⟨s0, s1, s2, s3, s4⟩ := hSw
                    go_simp
                    try with_reducible rfl
                  try simp only [Act.put, List.setIfInBounds_toArray, List.set_cons_zero, List.set_cons_succ]
                  refine wpAnyH_take (i := 42) (oi := { dst := _, op := _, type := _, pos := _, after := _, guard := _ }) (v := ?_) rfl (by kernel_rfl) (by kernel_rfl) (by kernel_rfl) (fun _ _ _ h => h) (Or.inl ⟨by rfl, ?_⟩) hH ?_
                  rotate_left
                  · intro w9 hSw
                    try dsimp only at hSw
                    obtain ⟨s0, s1, s2, s3, s4⟩ := hSw
                    go_simp
                    try with_reducible rfl
                  try simp only [Act.put, List.setIfInBounds_toArray, List.set_cons_zero, List.set_cons_succ]
                  refine wpAnyH_take (i := 43) (oi := { dst := _, op := _, type := _, pos := _, after := _, guard := _ }) (v := ?_) rfl (by kernel_rfl) (by kernel_rfl) (by kernel_rfl) (fun _ _ _ h => h) (Or.inl ⟨by rfl, ?_⟩) hH ?_
                  rotate_left
                  · intro w9 hSw
                    try dsimp only at hSw
                    obtain ⟨s0, s1, s2, s3, s4⟩ := hSw
                    go_simp
                    try with_reducible rfl
                  try simp only [Act.put, List.setIfInBounds_toArray, List.set_cons_zero, List.set_cons_succ]
                  refine wpAnyH_take (i := 44) (oi := { dst := _, op := _, type := _, pos := _, after := _, guard := _ }) (v := ?_) rfl (by kernel_rfl) (by kernel_rfl) (by kernel_rfl) (fun _ _ _ h => h) (Or.inl ⟨by rfl, ?_⟩) hH ?_
                  rotate_left
                  · intro w9 hSw
                    try dsimp only at hSw
                    obtain ⟨s0, s1, s2, s3, s4⟩ := hSw
                    go_simp
                    try with_reducible rfl
                  try simp only [Act.put, List.setIfInBounds_toArray, List.set_cons_zero, List.set_cons_succ]
                  refine wpAnyH_take (i := 45) (oi := { dst := _, op := _, type := _, pos := _, after := _, guard := _ }) (v := ?_) rfl (by kernel_rfl) (by kernel_rfl) (by kernel_rfl) (fun _ _ _ h => h) (Or.inl ⟨by rfl, ?_⟩) hH ?_
                  rotate_left
                  · intro w9 hSw
                    try dsimp only at hSw
                    obtain ⟨s0, s1, s2, s3, s4⟩ := hSw
                    go_simp
                    try with_reducible rfl
                  try simp only [Act.put, List.setIfInBounds_toArray, List.set_cons_zero, List.set_cons_succ]
                  refine wpAnyH_take (i := 46) (oi := { dst := _, op := _, type := _, pos := _, after := _, guard := _ }) (v := ?_) rfl (by kernel_rfl) (by kernel_rfl) (by kernel_rfl) (fun _ _ _ h => h) (Or.inl ⟨by rfl, ?_⟩) hH ?_
                  rotate_left
                  · intro w9 hSw
                    try dsimp only at hSw
                    obtain ⟨s0, s1, s2, s3, s4⟩ := hSw
                    go_simp
                    try with_reducible rfl
                  try simp only [Act.put, List.setIfInBounds_toArray, List.set_cons_zero, List.set_cons_succ]
                  refine wpAnyH_take (i := 47) (oi := { dst := _, op := _, type := _, pos := _, after := _, guard := _ }) (v := ?_) rfl (by kernel_rfl) (by kernel_rfl) (by kernel_rfl) (fun _ _ _ h => h) (Or.inl ⟨by rfl, ?_⟩) hH ?_
                  rotate_left
                  · intro w9 hSw
                    try dsimp only at hSw
                    obtain ⟨s0, s1, s2, s3, s4⟩ := hSw
                    go_simp
                    try with_reducible rfl
                  try simp only [Act.put, List.setIfInBounds_toArray, List.set_cons_zero, List.set_cons_succ]
                  refine wpAnyH_done (by kernel_rfl) ?_ _
                  go_wp2
                  go_roundw
                  case rel => exact ⟨e + 1, hlt2, by go_num, hBk'.out⟩
                  case measure => simp [intOf]; omega
                · obtain rfl : e = s.length := by omega
                  go_wp2
                  go_roundw
                  case rel => exact ⟨k + 1, hlt, by go_num, hBk⟩
                  case measure => simp [intOf]; omega
            · obtain rfl : k = F.length := by omega
              go_wp2
              go_ret
              exact ⟨rfl, hB.trans (hBk.mono hB.size)⟩
    · have hq2 : (cd != 0) = true := by simpa using hc0
      clear hc0
      go_wp2
      go_ret
      exact ⟨rfl, hB⟩
theorem FnStarted_own : ownKnob Try.prog.godebug = none := by kernel_rfl
theorem FnStarted_laidOut : laidOutB Try.prog = true := by kernel_rfl
set_option maxRecDepth 100000 in
theorem FnStarted_lifted (os : Os) (started : os.Started) (H : Type) (enc : TypeId × Value → H) :
    ReturnsInHanded {} Try.checked os 9 .any (Rows.fnStartedSpec.pre6 enc Try.prog Try.f9 Rows.fnStartedRow.domain false) (Rows.fnStartedSpec.post enc Try.prog Try.f9 false true false false) := by
  refine returnsInHanded_of_change (C := Try.checked) FnStarted_own started (by kernel_rfl) Try.func9
    (ChangeSpec.witness6 (enc := enc) (C := Try.checked) false ⟨#[], #[.slice none 0 0], []⟩ 8 (by kernel_rfl) (by kernel_rfl) (by kernel_rfl) (by kernel_rfl)) ?_
  intro W base args ds gs before hval0 hW hcnd _
  have hval : ∀ (j : Nat) t v, Try.f9.params[j]? = some t → args[j]? = some v → Value.okWide Try.prog W .any base t v := hval0
  have hW' := hW
  obtain ⟨p, q, hA0, hV, rfl, hfz, hnd⟩ := hW
  have hA : DataW.TrodAll enc Try.prog W 0 (fun _ => true) true Try.f9.params.toList args.toList ds p := hA0
  rw [Try.params9] at hA hval
  obtain ⟨v0, vs0, d0, ds0, p0, q0, hargs, rfl, rfl, h0, r0⟩ := trodAll_cons hA
  obtain ⟨rfl, rfl, rfl⟩ := trodAll_nil r0
  obtain rfl : args = #[v0] := by cases args; simp_all
  obtain ⟨rfl, rfl⟩ := trodVars_none hV
  have k0 := h0
  have lt0 : ∀ x ∈ p0, x.block < W.heap.size := by obtain ⟨m, hm⟩ := k0; exact DataW.trod_lt m _ _ _ hm
  obtain ⟨A0, n0, c0, rfl⟩ := okWide_slice Try.underlying56 (hval 0 56 v0 rfl rfl)
  obtain ⟨fuel0, hf0⟩ := h0
  obtain ⟨l0, a0, o0⟩ := open_bytes Try.underlying56 Try.underlying5 (by kernel_rfl) (show DataW.trod enc Try.prog W 0 (fun _ => true) true fuel0 56 [_] = _ by simpa [Value.cells] using hf0)
  clear hA0 hval0
  refine (law_FnStarted _ _ W a0 o0).mono fun e W' ⟨he, bel⟩ => ?_
  subst he
  exact ⟨_, rfl, _, _, _, [], _, [], hW', trodAll_mk1 (shut_bool Try.underlying4 _), (trodAll_cons_mk (Below.trod FnStarted_laidOut (by kernel_rfl) (of_decide_eq_true (by kernel_rfl)) k0 bel lt0) trodAll_mk0), rfl, bel.frame _, fun h => by cases h⟩
theorem FnStarted_over : Rows.fnStartedRow.holds Try.pinned (OpenSpec.ofChange Rows.fnStartedSpec) :=
  OpenClaim.holds_of_wide 9 Try.f9 rfl rfl rfl rfl rfl rfl rfl ⟨rfl, rfl, rfl, rfl, rfl⟩ rfl rfl rfl rfl rfl (by kernel_rfl) Try.func9 (by kernel_rfl)
    (of_decide_eq_true (by kernel_rfl)) (by unfold Func.isWrapper; first | (rw [if_pos (by decide +kernel)]; kernel_rfl) | (rw [if_neg (by decide +kernel)]; exact ⟨rfl, rfl⟩))
    (fun os started H enc _ => FnStarted_lifted os started H enc)
/-- The given statement. -/
theorem FnStarted_proved : Rows.FnStartedSaid := FnStarted_over
end Go.Proofs.Ytpkkkigiiaegfaa
