/-
  LatenessOf, the program's.
-/
import Derived.Test.YtpkkkigiiaegfaaLateP
import Derived.Test.YtpkkkigiiaegfaaRunIB
import Derived.Test.YtpkkkigiiaegfaaEqs
import Derived.Test.YtpkkkigiiaegfaaOwnX
namespace Go.Proofs.Ytpkkkigiiaegfaa
open Go.RowKit
set_option linter.unusedVariables false
set_option linter.unusedSimpArgs false

theorem max_if7 (a b : Int) : max a b = if a < b then b else a := by by_cases h : a < b <;> simp [h] <;> omega
theorem isRunF_runK {ge : Int} {gp : List Place} {l : List Firing} (h : isRunF ge gp l = true) : runK ge gp l l.length = true := by
  unfold isRunF at h
  simp only [Bool.and_eq_true] at h
  exact h.2
theorem lateB_take (l : List Firing) (k : Nat) (h : k < l.length) : lateB (l.take (k + 1)) = (lateB (l.take k) || decide (50 < l[k].number)) := by
  unfold lateB
  rw [take_succ_get _ _ h, List.any_append]
  simp only [List.any_cons, List.any_nil, Bool.or_false]
theorem lateB_of (l : List Firing) (k : Nat) (h : k < l.length) (h50 : 50 < l[k].number) : lateB l = true := by
  unfold lateB
  exact List.any_eq_true.2 ⟨_, List.getElem_mem h, by simpa using h50⟩
theorem EarlOk.fst {ge : Int} {c : Nat} {l : List Firing} (h : EarlOk ge c l) (e : Int) (j : Nat) (hj : j < (timesIn l e).length) : 0 ≤ (timesIn l e)[j] ∧ (timesIn l e)[j] ≤ (c : Int) := by
  have := h.times e j
  simpa [List.getD, List.getElem?_eq_getElem hj] using this
set_option maxHeartbeats 8000000 in
set_option maxRecDepth 100000 in
theorem impl_LatenessOf (v : Value) (ge : Int) (gp : List Place) (u : Value) (l : List Firing) (w : World) (h0 : Lst Place.cells 4 w w.heap.size v gp) (h1 : Lst Firing.cells 3 w w.heap.size u l) :
    Calls Try.prog 40 #[.agg #[.int .i64 ge, v], u] w (RetOwnI intCell 1 2 w (lateF ge gp l).1 (lateF ge gp l).2) := by
  obtain ⟨A, c, rfl⟩ := h0.shape
  obtain ⟨C, d, rfl⟩ := h1.shape
  go_enter Try.func40, Try.ntmps40
  go_wp2_with fail
  have hW : Below w.heap.size w (w.alloc (.cells #[.int .i64 ge, .slice A gp.length c] 32)) := (Below.refl _ _).alloc (Nat.le_refl _) _; have hb0 : Blk (w.alloc (.cells #[.int .i64 ge, .slice A gp.length c] 32)) w.heap.size 32 #[.int .i64 ge, .slice A gp.length c] := Blk.new _ _ _; replace h0 := h0.now hW; replace h1 := h1.now hW; generalize (w.alloc (.cells #[.int .i64 ge, .slice A gp.length c] 32)) = W at *
  refine (impl_checkRun _ _ _ _ _ _ h0 h1).mono ?_
  rintro e w1 ⟨rfl, hB⟩
  replace hW := hW.trans (hB.mono hW.size); replace h0 := h0.now hB; replace h1 := h1.now hB; replace hb0 := hb0.now hB
  obtain ⟨k0, k1⟩ := hb0.c2
  clear hB
  cases hg : okGraph ge gp
  · have hE : Hid (lateF ge gp l = ([], 1)) := by show _ = _; simp [lateF, hg]
    clear hg
    simp only [if_true]
    go_wp2
    go_ret2
    exact RetOwnI.of hE.out ⟨_, rfl, Own.nil, hW⟩
  · obtain ⟨hge1, hge2⟩ := okGraph_ev hg
    obtain ⟨n, rfl⟩ := Int.eq_ofNat_of_zero_le (show 0 ≤ ge by omega)
    have hg' := Lib.hid hg
    clear hg
    cases hm : isRunF n gp l
    · have hE : Hid (lateF n gp l = ([], 2)) := by show _ = _; simp [lateF, hg'.out, hm]
      clear hm
      simp only [Bool.true_eq_false, if_false, if_true]
      go_wp2
      go_ret2
      exact RetOwnI.of hE.out ⟨_, rfl, Own.nil, hW⟩
    · have hE : Hid (lateF n gp l = if lateB l = true then ([], 2) else (lateL gp l, 0)) := by show _ = _; simp [lateF, hg'.out, hm]
      have hok := Lib.hid (isRunF_ok hm)
      have hl5 := hok.out.2
      have hrk := Lib.hid (isRunF_runK hm)
      have hEk := Lib.hid (fun k hk => earl_ok hg'.out hok.out.1 k hk)
      clear hm
      simp only [Bool.true_eq_false, if_false]
      have hmk := run_make_lst (P := Try.prog) Ref.cells 1 Ref.cells_len (by omega) ⟨none, 0, 0⟩ 47 37 _ 24 Try.underlying47 info_ref rfl .i64 .i64 n (by omega) (by omega)
      have hm1 := fun w => (hmk w).1
      have hm2 := Lib.hid fun (w : World) => (hmk w).2 w.heap.size (Nat.le_refl _)
      clear hmk
      have hM0 := OwnM.made (hm2.out w1)
      have hN : Below w1.heap.size w1 (w1.alloc (.cells (madeCells (Ref.cells ⟨none, 0, 0⟩).toArray (n * 1)) 37)) := (Below.refl _ _).alloc (Nat.le_refl _) _
      simp only [Nat.mul_one] at hM0 hN
      have hs1 := hW.size
      have l0 := hb0.lt
      go_wp2
      clear k0 k1 l0 hm1 hm2
      go_loopw [8, 10, 11, 13, 25] (fun o _ _ _ i wr => ∃ k : Nat, k ≤ l.length ∧ i = .int .i64 k ∧ Hid (lateB (l.take k) = false) ∧ OwnX wr w1.heap.size (.slice (some ⟨w1.heap.size, 0, none⟩) n n) (tabR n (early gp (l.take k))) o (lateL gp (l.take k)) ∧ Below w1.heap.size w1 wr) (fun _ _ _ _ i _ => l.length - (intOf i).toNat)
      case atStart => exact ⟨0, Nat.zero_le _, rfl, rfl, OwnX.first (by show OwnM _ _ _ (tabR n []); rw [tabR_nil]; exact hM0), hN⟩
      case round =>
        clear hM0 hN
        obtain ⟨k, hk, rfl, hLb, hX, hB⟩ := hrel
        have hs := hB.size
        have l0w := (hb0.now hB).lt
        obtain ⟨k0, k1⟩ := (hb0.now hB).c2
        by_cases hlt : k < l.length
        · obtain ⟨b, off, hC0, hbb, c0, c1, c2⟩ := firings_at (h1.now hB) k hlt
          cases hC0
          have hnum := hok.out.1.1 k hlt
          obtain ⟨hev, hti⟩ := hok.out.1.2 _ (List.getElem_mem hlt)
          have hrd := runK_ready hrk.out k hlt
          have hS := early_take gp l k hlt
          have hLt := lateL_take gp l k hlt
          have hLs := lateB_take l k hlt
          have hLo := lateB_of l k hlt
          obtain ⟨f, hf⟩ : ∃ f, l[k] = f := ⟨_, rfl⟩
          rw [hf] at c0 c1 c2 hnum hev hti hrd hS hLt hLs hLo
          clear hf
          obtain ⟨ev, nu, ti⟩ := f
          simp only at c0 c1 c2 hnum hev hti hrd hLt hLs hLo
          rw [← early_cnt gp] at hnum
          rw [← readyS_some hg'.out (timesIn (early gp (l.take k))) _ (fun e => early_cnt gp (l.take k) e)] at hrd
          unfold earlS at hS
          simp only at hS
          have hEo := Lib.hid (hEk.out k hk)
          have hEn : Hid ((early gp (l.take k)).length = k) := by show _ = _; rw [early_len, List.length_take, Nat.min_eq_left hk]
          have hLn : Hid ((lateL gp (l.take k)).length = k) := by show _ = _; rw [lateL_len, List.length_take, Nat.min_eq_left hk]
          generalize early gp (l.take k) = E at *
          generalize lateL gp (l.take k) = L at *
          obtain ⟨tR, htR⟩ := Option.isSome_iff_exists.1 hrd
          rw [htR] at hS hLt
          simp only [Option.getD_some] at hS hLt
          obtain ⟨e, rfl⟩ := Int.eq_ofNat_of_zero_le hev.1
          have hSH := Lib.hid hS
          have hLH := Lib.hid hLt
          have hLsH := Lib.hid hLs
          have hLoH := Lib.hid hLo
          have hnH := Lib.hid hnum
          have htH := Lib.hid htR
          clear hS hLt hLs hLo hnum hrd htR
          by_cases h50 : 50 < nu
          · have hF : Hid (lateF n gp l = ([], 2)) := by show _ = _; rw [hE.out, if_pos (hLoH.out h50)]
            have q1 : decide ((50 : Int) < nu) = true := decide_eq_true h50
            clear hLoH hLsH hSH hLH hnH htH hE
            go_wp2
            go_ret2
            exact RetOwnI.of hF.out ⟨_, rfl, Own.nil, hW.trans ((hB.trans (((Below.refl _ _).alloc (Nat.le_refl _) _).mono hs)).mono hs1)⟩
          · have q1 : decide ((50 : Int) < nu) = false := decide_eq_false h50
            have hLb' : Hid (lateB (l.take (k + 1)) = false) := by show _ = _; rw [hLsH.out, hLb.out, q1]; rfl
            clear hLoH hLsH
            have hA1 : Below wr.heap.size wr (wr.alloc (.cells #[.int .i64 e, .int .i64 nu, .int .i64 ti] 94)) := (Below.refl _ _).alloc (Nat.le_refl _) _
            have hbf := Blk.newAt wr (t := 94) (cs := #[.int .i64 e, .int .i64 nu, .int .i64 ti]) _ rfl
            have hB' := hB.trans (hA1.mono hs)
            have hX' := hX.now hA1
            have hT := Lib.hid (fun j tv h => readyS_bd hg'.out (timesIn E) ((1000 * k : Nat) : Int) (by omega) (fun i j => hEo.out.times i j) (e : Int) j h tv)
            have hgl := okGraph_len hg'.out
            have hbxne : wr.heap.size ≠ w1.heap.size := by
              obtain ⟨g9, c9, r9, hu9, _, hg9, _⟩ := hX.mat.row 0 (by rw [tabR_len]; omega)
              injection hu9 with hu9 _ _
              injection hu9 with hu9
              injection hu9 with hu9 _ _
              omega
            have hcb := timesIn_len E (e : Int)
            rw [hEn.out] at hcb
            go_wp2
            clear hB hX hs l0w k0 k1 c0 c1 c2 hbb hA1 q1
            generalize wr.alloc (.cells #[.int .i64 e, .int .i64 nu, .int .i64 ti] 94) = V at *
            generalize wr.heap.size = bx at *
            have hs := hB'.size
            have hnum := hnH.out
            generalize hcc : (timesIn E (e : Int)).length = cc at *
            subst hnum
            clear hnH
            go_loopw [11, 13, 35] (fun x _ i wq => ∃ (j : Nat) (tv : Int), j ≤ gp.length ∧ i = .int .i64 j ∧ x = .int .i64 tv ∧ Hid (readyS (gp.take j) (timesIn E) e = some tv) ∧ Below V.heap.size V wq) (fun _ _ i _ => gp.length - (intOf i).toNat)
            case atStart => exact ⟨0, 0, Nat.zero_le _, rfl, rfl, rfl, Below.refl _ _⟩
            case round =>
              obtain ⟨j, tv, hj, rfl, rfl, hRd, hBq⟩ := hrel
              have hsq := hBq.size
              obtain ⟨f0, f1, f2⟩ := (hbf.now hBq).c3
              have lf := (hbf.now hBq).lt
              by_cases hlj : j < gp.length
              · obtain ⟨b, off, hA0, hbb, d0, d1, d2, d3⟩ := places_at ((h0.now hB').now hBq) j hlj
                cases hA0
                have hp := okGraph_place hg'.out (List.getElem_mem hlj)
                have hSS := readyS_succ gp (timesIn E) e j hlj
                have hNo := readyS_none gp (timesIn E) e (j + 1)
                rw [hRd.out] at hSS
                simp only [stepR, Option.bind_some] at hSS
                rw [hcc] at hSS
                rw [hSS, htH.out] at hNo
                have hSS0 := readyS_succ gp (timesIn E) e j hlj
                obtain ⟨p, hpe⟩ : ∃ p, gp[j] = p := ⟨_, rfl⟩
                rw [hpe] at d0 d1 d2 d3 hp hSS hNo
                clear hpe hSS0
                obtain ⟨sv, dv, dl, tk⟩ := p
                simp only at d0 d1 d2 d3 hp hSS hNo
                obtain ⟨⟨p1, p2⟩, _, ⟨p5, p6⟩, ⟨p7, p8⟩⟩ := hp
                by_cases hd : dv = (e : Int)
                · subst hd
                  obtain ⟨tn, rfl⟩ := Int.eq_ofNat_of_zero_le p7
                  by_cases ht : (tn : Int) < (cc : Int) + 1
                  · rw [if_neg (by rintro (h | h); exact h rfl; omega)] at hSS hNo
                    obtain ⟨s, rfl⟩ := Int.eq_ofNat_of_zero_le p1
                    rw [Int.toNat_natCast] at hSS hNo
                    by_cases hm : (timesIn E (s : Int)).length < cc + 1 - tn
                    · rw [if_pos hm] at hNo
                      exact absurd (hNo rfl) (by simp)
                    · rw [if_neg hm] at hSS
                      have q2 : decide ((tn : Int) < (cc : Int) + 1) = true := decide_eq_true ht
                      obtain ⟨mi, hmi⟩ : ∃ mi : Nat, cc - tn = mi := ⟨_, rfl⟩
                      have hml : mi < (timesIn E (s : Int)).length := by omega
                      have hsn : s < (tabR n E).length := by rw [tabR_len]; omega
                      obtain ⟨g9, c9, r9, hu9, -, hg9, -, hc9, hr9, -, -, -⟩ := (hX'.mat.now hBq).row s hsn
                      rw [tabR_len] at hu9
                      cases hu9
                      rw [tabR_get] at hr9
                      obtain ⟨RA, rc, hv9⟩ := hr9.shape
                      rw [hv9] at hc9 hr9
                      obtain ⟨rb, ro, rfl, hrb, x0⟩ := ints_at hr9.lst mi hml
                      have hxb := hEo.out.fst (s : Int) mi hml
                      rw [hmi, show (timesIn E (s : Int)).getD mi 0 = (timesIn E (s : Int))[mi] by simp [List.getD, List.getElem?_eq_getElem hml], max_if7] at hSS
                      generalize (timesIn E (s : Int))[mi] = xv at *
                      have hSS' := Lib.hid hSS
                      have i1 : (0 : Int) ≤ (s : Int) := by omega
                      have i2 : (s : Int) < (n : Int) := by omega
                      have i3 : (0 : Int) ≤ (mi : Int) := by omega
                      have i4 : (mi : Int) < ((timesIn E (s : Int)).length : Int) := by omega
                      have wr1 : IntKind.i64.wrap ((cc : Int) + 1 - (tn : Int)) = (mi : Int) + 1 := (IntWalk.i64_in _ (by omega)).trans (by omega)
                      have wr2 : IntKind.i64.wrap ((mi : Int) + 1 - 1) = (mi : Int) := (IntWalk.i64_in _ (by omega)).trans (by omega)
                      have wr3 : IntKind.i64.wrap (mi : Int) = (mi : Int) := IntWalk.i64_in _ (by omega)
                      have wr4 : IntKind.i64.wrap (xv + dl) = xv + dl := IntWalk.i64_in _ (by omega)
                      generalize (timesIn E (s : Int)).length = rl at *
                      clear hSS hNo hr9 hv9
                      go_wp2_with fail
                      have hA1 : Below wr.heap.size wr (wr.alloc (.cells #[.int .i64 (s : Nat), .int .i64 (e : Nat), .int .i64 dl, .int .i64 (tn : Nat)] 65)) := (Below.refl _ _).alloc (Nat.le_refl _) _
                      have hbp := Blk.newAt wr (t := 65) (cs := #[.int .i64 (s : Nat), .int .i64 (e : Nat), .int .i64 dl, .int .i64 (tn : Nat)]) _ rfl
                      have f1' := cell_keep f1 hA1
                      have hc9' := cell_keep hc9 hA1
                      have x0' := cell_keep x0 hA1
                      have hBq' := hBq.trans (hA1.mono hsq)
                      clear d0 d1 d2 d3 hbb hA1 f0 f1 f2 lf hc9 x0 hg9 hrb
                      generalize wr.alloc (.cells #[.int .i64 (s : Nat), .int .i64 (e : Nat), .int .i64 dl, .int .i64 (tn : Nat)] 65) = Y at *
                      generalize wr.heap.size = bp at *
                      obtain ⟨y0, y1, y2, y3⟩ := hbp.c4
                      have z0 : Y.drew.cell? ⟨bp, 0, none⟩ = some (.int .i64 (s : Nat)) := y0
                      have z2 : Y.drew.cell? ⟨bp, 2, none⟩ = some (.int .i64 dl) := y2
                      have z3 : Y.drew.cell? ⟨bp, 3, none⟩ = some (.int .i64 (tn : Nat)) := y3
                      have z4 : Y.drew.cell? ⟨bx, 1, none⟩ = some (.int .i64 ((cc : Int) + 1)) := f1'
                      have z5 : Y.drew.cell? ⟨w1.heap.size, s, none⟩ = some (.slice (some ⟨rb, ro, none⟩) rl rc) := hc9'
                      have z6 : Y.drew.cell? ⟨rb, ro + mi, none⟩ = some (.int .i64 xv) := x0'
                      clear y0 y1 y2 y3 f1' hc9' x0'
                      refine wp_region_held_drew (S := fun w' => w'.cell? ⟨bp, 0, none⟩ = some (.int .i64 (s : Nat)) ∧ w'.cell? ⟨bp, 2, none⟩ = some (.int .i64 dl) ∧ w'.cell? ⟨bp, 3, none⟩ = some (.int .i64 (tn : Nat)) ∧ w'.cell? ⟨bx, 1, none⟩ = some (.int .i64 ((cc : Int) + 1)) ∧ w'.cell? ⟨w1.heap.size, s, none⟩ = some (.slice (some ⟨rb, ro, none⟩) rl rc) ∧ w'.cell? ⟨rb, ro + mi, none⟩ = some (.int .i64 xv)) (by kernel_rfl) ⟨z0, z2, z3, z4, z5, z6⟩ (fun hH => ?_)
                      refine wpAnyH_take (i := 0) (oi := { dst := _, op := _, type := _, pos := _, after := _, guard := _ }) (v := ?_) rfl (by kernel_rfl) (by kernel_rfl) (by kernel_rfl) (fun _ _ _ h => h) (Or.inl ⟨by rfl, ?_⟩) hH ?_
                      rotate_left
                      · intro w9 hSw
                        try dsimp only at hSw
                        obtain ⟨s0, s1, s2, s3, s4, s5⟩ := hSw
                        go_simp
                        try with_reducible rfl
                      try simp only [Act.put, List.setIfInBounds_toArray, List.set_cons_zero, List.set_cons_succ]
                      refine wpAnyH_take (i := 1) (oi := { dst := _, op := _, type := _, pos := _, after := _, guard := _ }) (v := ?_) rfl (by kernel_rfl) (by kernel_rfl) (by kernel_rfl) (fun _ _ _ h => h) (Or.inl ⟨by rfl, ?_⟩) hH ?_
                      rotate_left
                      · intro w9 hSw
                        try dsimp only at hSw
                        obtain ⟨s0, s1, s2, s3, s4, s5⟩ := hSw
                        go_simp
                        try with_reducible rfl
                      try simp only [Act.put, List.setIfInBounds_toArray, List.set_cons_zero, List.set_cons_succ]
                      refine wpAnyH_take (i := 2) (oi := { dst := _, op := _, type := _, pos := _, after := _, guard := _ }) (v := ?_) rfl (by kernel_rfl) (by kernel_rfl) (by kernel_rfl) (fun _ _ _ h => h) (Or.inl ⟨by rfl, ?_⟩) hH ?_
                      rotate_left
                      · intro w9 hSw
                        try dsimp only at hSw
                        obtain ⟨s0, s1, s2, s3, s4, s5⟩ := hSw
                        go_simp
                        try with_reducible rfl
                      try simp only [Act.put, List.setIfInBounds_toArray, List.set_cons_zero, List.set_cons_succ]
                      refine wpAnyH_take (i := 3) (oi := { dst := _, op := _, type := _, pos := _, after := _, guard := _ }) (v := ?_) rfl (by kernel_rfl) (by kernel_rfl) (by kernel_rfl) (fun _ _ _ h => h) (Or.inl ⟨by rfl, ?_⟩) hH ?_
                      rotate_left
                      · intro w9 hSw
                        try dsimp only at hSw
                        obtain ⟨s0, s1, s2, s3, s4, s5⟩ := hSw
                        go_simp
                        try with_reducible rfl
                      try simp only [Act.put, List.setIfInBounds_toArray, List.set_cons_zero, List.set_cons_succ]
                      refine wpAnyH_take (i := 4) (oi := { dst := _, op := _, type := _, pos := _, after := _, guard := _ }) (v := ?_) rfl (by kernel_rfl) (by kernel_rfl) (by kernel_rfl) (fun _ _ _ h => h) (Or.inl ⟨by rfl, ?_⟩) hH ?_
                      rotate_left
                      · intro w9 hSw
                        try dsimp only at hSw
                        obtain ⟨s0, s1, s2, s3, s4, s5⟩ := hSw
                        go_simp
                        try with_reducible rfl
                      try simp only [Act.put, List.setIfInBounds_toArray, List.set_cons_zero, List.set_cons_succ]
                      refine wpAnyH_take (i := 5) (oi := { dst := _, op := _, type := _, pos := _, after := _, guard := _ }) (v := ?_) rfl (by kernel_rfl) (by kernel_rfl) (by kernel_rfl) (fun _ _ _ h => h) (Or.inl ⟨by rfl, ?_⟩) hH ?_
                      rotate_left
                      · intro w9 hSw
                        try dsimp only at hSw
                        obtain ⟨s0, s1, s2, s3, s4, s5⟩ := hSw
                        go_simp
                        try with_reducible rfl
                      try simp only [Act.put, List.setIfInBounds_toArray, List.set_cons_zero, List.set_cons_succ]
                      refine wpAnyH_take (i := 6) (oi := { dst := _, op := _, type := _, pos := _, after := _, guard := _ }) (v := ?_) rfl (by kernel_rfl) (by kernel_rfl) (by kernel_rfl) (fun _ _ _ h => h) (Or.inl ⟨by rfl, ?_⟩) hH ?_
                      rotate_left
                      · intro w9 hSw
                        try dsimp only at hSw
                        obtain ⟨s0, s1, s2, s3, s4, s5⟩ := hSw
                        go_simp
                        try with_reducible rfl
                      try simp only [Act.put, List.setIfInBounds_toArray, List.set_cons_zero, List.set_cons_succ]
                      refine wpAnyH_take (i := 7) (oi := { dst := _, op := _, type := _, pos := _, after := _, guard := _ }) (v := ?_) rfl (by kernel_rfl) (by kernel_rfl) (by kernel_rfl) (fun _ _ _ h => h) (Or.inl ⟨by rfl, ?_⟩) hH ?_
                      rotate_left
                      · intro w9 hSw
                        try dsimp only at hSw
                        obtain ⟨s0, s1, s2, s3, s4, s5⟩ := hSw
                        go_simp
                        try with_reducible rfl
                      try simp only [Act.put, List.setIfInBounds_toArray, List.set_cons_zero, List.set_cons_succ]
                      refine wpAnyH_take (i := 8) (oi := { dst := _, op := _, type := _, pos := _, after := _, guard := _ }) (v := ?_) rfl (by kernel_rfl) (by kernel_rfl) (by kernel_rfl) (fun _ _ _ h => h) (Or.inl ⟨by rfl, ?_⟩) hH ?_
                      rotate_left
                      · intro w9 hSw
                        try dsimp only at hSw
                        obtain ⟨s0, s1, s2, s3, s4, s5⟩ := hSw
                        go_simp
                        try with_reducible rfl
                      try simp only [Act.put, List.setIfInBounds_toArray, List.set_cons_zero, List.set_cons_succ]
                      refine wpAnyH_take (i := 9) (oi := { dst := _, op := _, type := _, pos := _, after := _, guard := _ }) (v := ?_) rfl (by kernel_rfl) (by kernel_rfl) (by kernel_rfl) (fun _ _ _ h => h) (Or.inl ⟨by rfl, ?_⟩) hH ?_
                      rotate_left
                      · intro w9 hSw
                        try dsimp only at hSw
                        obtain ⟨s0, s1, s2, s3, s4, s5⟩ := hSw
                        go_simp
                        try with_reducible rfl
                      try simp only [Act.put, List.setIfInBounds_toArray, List.set_cons_zero, List.set_cons_succ]
                      refine wpAnyH_take (i := 10) (oi := { dst := _, op := _, type := _, pos := _, after := _, guard := _ }) (v := ?_) rfl (by kernel_rfl) (by kernel_rfl) (by kernel_rfl) (fun _ _ _ h => h) (Or.inl ⟨by rfl, ?_⟩) hH ?_
                      rotate_left
                      · intro w9 hSw
                        try dsimp only at hSw
                        obtain ⟨s0, s1, s2, s3, s4, s5⟩ := hSw
                        go_simp
                        try with_reducible rfl
                      try simp only [Act.put, List.setIfInBounds_toArray, List.set_cons_zero, List.set_cons_succ]
                      refine wpAnyH_take (i := 11) (oi := { dst := _, op := _, type := _, pos := _, after := _, guard := _ }) (v := ?_) rfl (by kernel_rfl) (by kernel_rfl) (by kernel_rfl) (fun _ _ _ h => h) (Or.inl ⟨by rfl, ?_⟩) hH ?_
                      rotate_left
                      · intro w9 hSw
                        try dsimp only at hSw
                        obtain ⟨s0, s1, s2, s3, s4, s5⟩ := hSw
                        go_simp
                        try with_reducible rfl
                      try simp only [Act.put, List.setIfInBounds_toArray, List.set_cons_zero, List.set_cons_succ]
                      refine wpAnyH_take (i := 12) (oi := { dst := _, op := _, type := _, pos := _, after := _, guard := _ }) (v := ?_) rfl (by kernel_rfl) (by kernel_rfl) (by kernel_rfl) (fun _ _ _ h => h) (Or.inl ⟨by rfl, ?_⟩) hH ?_
                      rotate_left
                      · intro w9 hSw
                        try dsimp only at hSw
                        obtain ⟨s0, s1, s2, s3, s4, s5⟩ := hSw
                        go_simp
                        try with_reducible rfl
                      try simp only [Act.put, List.setIfInBounds_toArray, List.set_cons_zero, List.set_cons_succ]
                      refine wpAnyH_take (i := 13) (oi := { dst := _, op := _, type := _, pos := _, after := _, guard := _ }) (v := ?_) rfl (by kernel_rfl) (by kernel_rfl) (by kernel_rfl) (fun _ _ _ h => h) (Or.inl ⟨by rfl, ?_⟩) hH ?_
                      rotate_left
                      · intro w9 hSw
                        try dsimp only at hSw
                        obtain ⟨s0, s1, s2, s3, s4, s5⟩ := hSw
                        go_simp
                        try with_reducible rfl
                      try simp only [Act.put, List.setIfInBounds_toArray, List.set_cons_zero, List.set_cons_succ]
                      refine wpAnyH_take (i := 14) (oi := { dst := _, op := _, type := _, pos := _, after := _, guard := _ }) (v := ?_) rfl (by kernel_rfl) (by kernel_rfl) (by kernel_rfl) (fun _ _ _ h => h) (Or.inl ⟨by rfl, ?_⟩) hH ?_
                      rotate_left
                      · intro w9 hSw
                        try dsimp only at hSw
                        obtain ⟨s0, s1, s2, s3, s4, s5⟩ := hSw
                        go_simp
                        try with_reducible rfl
                      try simp only [Act.put, List.setIfInBounds_toArray, List.set_cons_zero, List.set_cons_succ]
                      refine wpAnyH_take (i := 15) (oi := { dst := _, op := _, type := _, pos := _, after := _, guard := _ }) (v := ?_) rfl (by kernel_rfl) (by kernel_rfl) (by kernel_rfl) (fun _ _ _ h => h) (Or.inl ⟨by rfl, ?_⟩) hH ?_
                      rotate_left
                      · intro w9 hSw
                        try dsimp only at hSw
                        obtain ⟨s0, s1, s2, s3, s4, s5⟩ := hSw
                        go_simp
                        try with_reducible rfl
                      try simp only [Act.put, List.setIfInBounds_toArray, List.set_cons_zero, List.set_cons_succ]
                      refine wpAnyH_take (i := 16) (oi := { dst := _, op := _, type := _, pos := _, after := _, guard := _ }) (v := ?_) rfl (by kernel_rfl) (by kernel_rfl) (by kernel_rfl) (fun _ _ _ h => h) (Or.inl ⟨by rfl, ?_⟩) hH ?_
                      rotate_left
                      · intro w9 hSw
                        try dsimp only at hSw
                        obtain ⟨s0, s1, s2, s3, s4, s5⟩ := hSw
                        go_simp
                        try with_reducible rfl
                      try simp only [Act.put, List.setIfInBounds_toArray, List.set_cons_zero, List.set_cons_succ]
                      refine wpAnyH_take (i := 17) (oi := { dst := _, op := _, type := _, pos := _, after := _, guard := _ }) (v := ?_) rfl (by kernel_rfl) (by kernel_rfl) (by kernel_rfl) (fun _ _ _ h => h) (Or.inl ⟨by rfl, ?_⟩) hH ?_
                      rotate_left
                      · intro w9 hSw
                        try dsimp only at hSw
                        obtain ⟨s0, s1, s2, s3, s4, s5⟩ := hSw
                        go_simp
                        try with_reducible rfl
                      try simp only [Act.put, List.setIfInBounds_toArray, List.set_cons_zero, List.set_cons_succ]
                      refine wpAnyH_take (i := 18) (oi := { dst := _, op := _, type := _, pos := _, after := _, guard := _ }) (v := ?_) rfl (by kernel_rfl) (by kernel_rfl) (by kernel_rfl) (fun _ _ _ h => h) (Or.inl ⟨by rfl, ?_⟩) hH ?_
                      rotate_left
                      · intro w9 hSw
                        try dsimp only at hSw
                        obtain ⟨s0, s1, s2, s3, s4, s5⟩ := hSw
                        go_simp
                        try with_reducible rfl
                      try simp only [Act.put, List.setIfInBounds_toArray, List.set_cons_zero, List.set_cons_succ]
                      refine wpAnyH_done (by kernel_rfl) ?_ _
                      go_wp2
                      go_roundw
                      case rel => exact ⟨j + 1, _, hlj, by go_num, rfl, hSS', hBq'.drew⟩
                      case measure => simp [intOf]; omega
                  · rw [if_pos (.inr (by omega))] at hSS
                    have q2 : decide ((tn : Int) < (cc : Int) + 1) = false := decide_eq_false ht
                    have hSS' := Lib.hid hSS
                    clear hSS hNo ht
                    go_wp2
                    go_roundw
                    case rel => exact ⟨j + 1, tv, hlj, by go_num, rfl, hSS', hBq.alloc hsq _⟩
                    case measure => simp [intOf]; omega
                · rw [if_pos (.inl hd)] at hSS
                  have q2 : (dv == (e : Int)) = false := by simpa using hd
                  have hSS' := Lib.hid hSS
                  clear hSS hNo hd
                  go_wp2
                  go_roundw
                  case rel => exact ⟨j + 1, tv, hlj, by go_num, rfl, hSS', hBq.alloc hsq _⟩
                  case measure => simp [intOf]; omega
              · obtain rfl : j = gp.length := by omega
                rw [List.take_length, htH.out] at hRd
                obtain rfl : tR = tv := by have := hRd.out; injection this
                clear hRd
                have htb := hT.out gp.length tR (Nat.le_refl _) (by rw [List.take_length]; exact htH.out)
                clear hT htH
                obtain ⟨rs, hl, hO, hRw, hD, hQ, hXd⟩ := hX'.now hBq
                have hen : e < (tabR n E).length := by rw [tabR_len]; omega
                have her : e < rs.length := by rw [hl]; exact hen
                obtain ⟨g0, cu, hu, hgb, hgl0, _, hc⟩ := hO.at_ Ref.cells_len e her
                rw [hl, tabR_len] at hu
                cases hu
                have r0 := hc 0 _ (by omega) rfl
                have hr := hRw e her hen
                rw [tabR_get] at hr
                obtain ⟨R, rc, hv⟩ := hr.shape
                rw [hcc] at hv
                simp only [Nat.mul_one, Nat.add_zero] at r0
                rw [hv] at r0
                clear hc
                have hZ : Below wr.heap.size wr (wr.drew.alloc (.cells #[.int .i64 tR] 2)) := (Below.refl _ _).drew.alloc (Nat.le_refl _) _
                replace hO := hO.now hZ
                have hRw2 : ∀ i (h1 : i < rs.length) (h2 : i < (tabR n E).length), Own intCell 1 2 (wr.drew.alloc (.cells #[.int .i64 tR] 2)) w1.heap.size rs[i].val (tabR n E)[i] := fun i h1 h2 => (hRw i h1 h2).now hZ
                have hQ2 := hQ.now hZ
                have qO := hRw2 e her hen
                have hne := own_ref_ne hO qO
                rw [tabR_get, hv] at qO
                rw [hv] at hne
                have hMH2 := Lib.hid (And.intro hl (And.intro hO (And.intro hRw2 (And.intro hD (And.intro hQ2 hXd)))))
                clear hl hO hRw hRw2 hD hQ hQ2 hXd hr hgb hgl0
                have hRwr := Lib.hid hv
                clear hv
                have hbfq := hbf.now hBq
                have hbfZ := hbfq.now hZ
                obtain ⟨x0, x1, x2⟩ := hbfq.c3
                obtain ⟨y0, y1, y2⟩ := hbfZ.c3
                have y3 := cell_keep r0 hZ
                have hLst : Lst intCell 1 (wr.drew.alloc (.cells #[.int .i64 tR] 2)) (wr.heap.size + 1) (.slice (some ⟨wr.heap.size, 0, none⟩) 1 1) [tR] := lst_new1 intCell 1 intCell_len wr.drew 2 tR _ rfl _ rfl
                have hlen : (timesIn E (e : Int)).length + [tR].length ≤ 1099511627776 := by simp; omega
                have hbs : w1.heap.size ≤ (wr.drew.alloc (.cells #[.int .i64 tR] 2)).heap.size := Nat.le_trans (Nat.le_trans hs hsq) hZ.size
                have hLL : Hid ((timesIn E (e : Int) ++ [tR]).length = cc + 1) := by show _ = _; simp [hcc]
                have z0 : wr.drew.cell? ⟨bx, 0, none⟩ = some (.int .i64 e) := x0
                have z3 : wr.drew.cell? ⟨w1.heap.size, e, none⟩ = some (.slice R cc rc) := r0
                have j1 : (0 : Int) ≤ (e : Int) := hev.1
                have j2 : (e : Int) < (n : Int) := hev.2
                have hBZ : Below w1.heap.size w1 (wr.drew.alloc (.cells #[.int .i64 tR] 2)) := hB'.trans ((hBq.trans (hZ.mono hsq)).mono hs)
                clear x0 x1 x2 r0 f0 f1 f2 lf
                go_wp2
                refine wp_region_E (fun w' => w'.cell? ⟨bx, 0, none⟩ = some (.int .i64 (e : Nat)) ∧ w'.cell? ⟨w1.heap.size, e, none⟩ = some (.slice R cc rc)) 12 (by kernel_rfl) ?_
                have hS0 : (fun w' : World => w'.cell? ⟨bx, 0, none⟩ = some (.int .i64 (e : Nat)) ∧ w'.cell? ⟨w1.heap.size, e, none⟩ = some (.slice R cc rc)) wr.drew := ⟨z0, z3⟩
                refine wpAnyE_take (i := 0) (v := ?_) rfl (by kernel_rfl) (by kernel_rfl) (by kernel_rfl) (by kernel_rfl) (by kernel_rfl) (fun _ _ _ h => h) hS0 (by rfl) ?_ ?_
                rotate_left
                · intro w9 hSw
                  try dsimp only at hSw
                  obtain ⟨s0, s1⟩ := hSw
                  go_simp
                  try with_reducible rfl
                try simp only [Act.put, List.setIfInBounds_toArray, List.set_cons_zero, List.set_cons_succ]
                refine wpAnyE_take (i := 1) (v := ?_) rfl (by kernel_rfl) (by kernel_rfl) (by kernel_rfl) (by kernel_rfl) (by kernel_rfl) (fun _ _ _ h => h) hS0 (by rfl) ?_ ?_
                rotate_left
                · intro w9 hSw
                  try dsimp only at hSw
                  obtain ⟨s0, s1⟩ := hSw
                  go_simp
                  try with_reducible rfl
                try simp only [Act.put, List.setIfInBounds_toArray, List.set_cons_zero, List.set_cons_succ]
                refine wpAnyE_take (i := 2) (v := ?_) rfl (by kernel_rfl) (by kernel_rfl) (by kernel_rfl) (by kernel_rfl) (by kernel_rfl) (fun _ _ _ h => h) hS0 (by rfl) ?_ ?_
                rotate_left
                · intro w9 hSw
                  try dsimp only at hSw
                  obtain ⟨s0, s1⟩ := hSw
                  go_simp
                  try with_reducible rfl
                try simp only [Act.put, List.setIfInBounds_toArray, List.set_cons_zero, List.set_cons_succ]
                refine wpAnyE_take (i := 3) (v := ?_) rfl (by kernel_rfl) (by kernel_rfl) (by kernel_rfl) (by kernel_rfl) (by kernel_rfl) (fun _ _ _ h => h) hS0 (by rfl) ?_ ?_
                rotate_left
                · intro w9 hSw
                  try dsimp only at hSw
                  obtain ⟨s0, s1⟩ := hSw
                  go_simp
                  try with_reducible rfl
                try simp only [Act.put, List.setIfInBounds_toArray, List.set_cons_zero, List.set_cons_succ]
                refine wpAnyE_take (i := 4) (v := ?_) rfl (by kernel_rfl) (by kernel_rfl) (by kernel_rfl) (by kernel_rfl) (by kernel_rfl) (fun _ _ _ h => h) hS0 (by rfl) ?_ ?_
                rotate_left
                · intro w9 hSw
                  try dsimp only at hSw
                  obtain ⟨s0, s1⟩ := hSw
                  go_simp
                  try with_reducible rfl
                try simp only [Act.put, List.setIfInBounds_toArray, List.set_cons_zero, List.set_cons_succ]
                refine wpAnyE_take (i := 5) (v := ?_) rfl (by kernel_rfl) (by kernel_rfl) (by kernel_rfl) (by kernel_rfl) (by kernel_rfl) (fun _ _ _ h => h) hS0 (by rfl) ?_ ?_
                rotate_left
                · intro w9 hSw
                  try dsimp only at hSw
                  obtain ⟨s0, s1⟩ := hSw
                  go_simp
                  try with_reducible rfl
                try simp only [Act.put, List.setIfInBounds_toArray, List.set_cons_zero, List.set_cons_succ]
                refine wpAnyE_take (i := 6) (v := ?_) rfl (by kernel_rfl) (by kernel_rfl) (by kernel_rfl) (by kernel_rfl) (by kernel_rfl) (fun _ _ _ h => h) hS0 (by rfl) ?_ ?_
                rotate_left
                · intro w9 hSw
                  try dsimp only at hSw
                  obtain ⟨s0, s1⟩ := hSw
                  go_simp
                  try with_reducible rfl
                try simp only [Act.put, List.setIfInBounds_toArray, List.set_cons_zero, List.set_cons_succ]
                refine wpAnyE_take (i := 7) (v := ?_) rfl (by kernel_rfl) (by kernel_rfl) (by kernel_rfl) (by kernel_rfl) (by kernel_rfl) (fun _ _ _ h => h) hS0 (by rfl) ?_ ?_
                rotate_left
                · intro w9 hSw
                  try dsimp only at hSw
                  obtain ⟨s0, s1⟩ := hSw
                  go_simp
                  try with_reducible rfl
                try simp only [Act.put, List.setIfInBounds_toArray, List.set_cons_zero, List.set_cons_succ]
                refine wpAnyE_take (i := 8) (v := ?_) rfl (by kernel_rfl) (by kernel_rfl) (by kernel_rfl) (by kernel_rfl) (by kernel_rfl) (fun _ _ _ h => h) hS0 (by rfl) ?_ ?_
                rotate_left
                · intro w9 hSw
                  try dsimp only at hSw
                  obtain ⟨s0, s1⟩ := hSw
                  go_simp
                  try with_reducible rfl
                try simp only [Act.put, List.setIfInBounds_toArray, List.set_cons_zero, List.set_cons_succ]
                refine wpAnyE_one (i := 9) rfl (by kernel_rfl) (fun K hK => ?_)
                go_simp
                refine hK.out _ _ (fun _ => ⟨y0, y3⟩) ?_
                clear hK K
                try simp only [Act.put, List.setIfInBounds_toArray, List.set_cons_zero, List.set_cons_succ]
                refine wpAnyE_one (i := 10) rfl (by kernel_rfl) (fun K hK => ?_)
                refine step_append_lst rfl _ _ 37 rfl intCell 1 intCell_one (by omega) w1.heap.size 2 _ 8 Try.underlying37 info_i64 rfl (.slice R cc rc) (timesIn E (e : Int)) rfl qO _ _ _ _ [tR] rfl hLst hlen (by omega) hbs ?_
                intro v1 wz hO1 hG hD1
                obtain ⟨V1, cv1, rfl⟩ := own_shape_n hO1 hLL.out
                have hbfz := hbfZ.grown hG (Ne.symm (qO.ne_blk hbfZ (by decide)))
                obtain ⟨u0, u1, u2⟩ := hbfz.c3
                have u3 := cell_kept y3 hG hne
                obtain ⟨hl2, hO2, hR2, hD2, hQ3, hX3⟩ := hMH2.out
                have hOz := own_kept hO2 hG (fun q a b => by injection a with a; subst a; exact hne b)
                have fz : wz.frozen? ⟨w1.heap.size, e, none⟩ = false := by obtain ⟨g9, c9, hu9, _, _, hf9, _⟩ := hOz.at_ Ref.cells_len e her; injection hu9 with hu9 _ _; injection hu9 with hu9; injection hu9 with hu9 _ _; subst hu9; exact hf9 e
                have hMH3 := Lib.hid (And.intro hl2 (And.intro hO2 (And.intro hR2 (And.intro hD2 (And.intro hQ3 hX3)))))
                clear hl2 hO2 hR2 hD2 hQ3 hX3 hOz
                refine hK.out _ _ (fun _ => ⟨u0, u3⟩) ?_
                clear hK K
                try simp only [Act.put, List.setIfInBounds_toArray, List.set_cons_zero, List.set_cons_succ]
                refine wpAnyE_one (i := 11) rfl (by kernel_rfl) (fun K hK => ?_)
                go_simp
                refine hK.out _ _ (fun _ => ⟨u0, u3⟩) ?_
                clear hK K
                try simp only [Act.put, List.setIfInBounds_toArray, List.set_cons_zero, List.set_cons_succ]
                refine wpAnyE_one (i := 12) rfl (by kernel_rfl) (fun K hK => ?_)
                go_simp
                refine hK.out _ _ (fun h => absurd rfl h) ?_
                clear hK K
                try simp only [Act.put, List.setIfInBounds_toArray, List.set_cons_zero, List.set_cons_succ]
                refine wpAnyE_done (by kernel_rfl) ?_
                obtain ⟨hl2, hO2, hR2, hD2, hQ3, hX3⟩ := hMH3.out
                have hXn := OwnX.app hl2 hO2 hR2 hD2 hQ3 hX3 e her ⟨V1, cc + 1, cv1⟩ (timesIn E (e : Int) ++ [tR]) hO1 (by rw [hRwr.out]; exact hG) (by rw [hRwr.out]; exact hD1) rfl
                rw [tabR_set n E e ((cc : Int) + 1) tR, ← hSH.out] at hXn
                simp only [Ref.val] at hXn
                have hBn := (below_app hBZ hbs hG qO (Nat.le_refl _)).setCell (p := ⟨w1.heap.size, e, none⟩) (Nat.le_refl _) (.slice V1 (cc + 1) cv1)
                have hbfs := hbfz.far (p := ⟨w1.heap.size, e, none⟩) hbxne (.slice V1 (cc + 1) cv1)
                have hBZs : w1.heap.size ≤ (wz.setCell ⟨w1.heap.size, e, none⟩ (.slice V1 (cc + 1) cv1)).heap.size := hBn.size
                have hfr := hbfs.lt
                clear u0 u1 u2 u3 fz hbfz hMH2 hMH3 hl2 hO2 hR2 hD2 hQ3 hX3 y0 y1 y2 y3 z0 z3 hbfZ hbfq hG hD1 hO1 qO hne hlen hLst hBZ hZ hbs
                obtain ⟨u0, u1, u2⟩ := hbfs.c3
                have wr3 : IntKind.i64.wrap (ti - tR) = ti - tR := IntWalk.i64_in _ (by omega)
                have hlen2 : L.length + [ti - tR].length ≤ 1099511627776 := by rw [hLn.out]; simp; omega
                generalize wz.setCell ⟨w1.heap.size, e, none⟩ (.slice V1 (cc + 1) cv1) = Y at *
                have hA2 : Below Y.heap.size Y (Y.alloc (.cells #[.int .i64 (ti - tR)] 2)) := (Below.refl _ _).alloc (Nat.le_refl _) _
                have hX2 := hXn.now hA2
                have hBY := hBn.trans (hA2.mono hBZs)
                have hbY : w1.heap.size ≤ (Y.alloc (.cells #[.int .i64 (ti - tR)] 2)).heap.size := Nat.le_trans hBZs hA2.size
                go_wp2_with (at_builtin; refine wpList_append_lst rfl _ _ 37 rfl intCell 1 intCell_one (by omega) w1.heap.size 2 _ 8 Try.underlying37 info_i64 rfl _ _ rfl hX2.own _ _ _ _ [ti - tR] rfl (lst_new1 _ _ intCell_len _ _ _ _ rfl _ (by simp)) hlen2 (by omega) hbY ?_; intro v' w7 hO7 hG7 hD7)
                have hBw := below_app hBY hbY hG7 hX2.own (Nat.le_refl _)
                have hXw := hX2.res hO7 hG7 hD7
                rw [← hLH.out] at hXw
                go_roundw
                case rel => exact ⟨k + 1, hlt, by go_num, hLb', hXw, hBw⟩
                case measure => simp [intOf]; omega
        · obtain rfl : k = l.length := by omega
          rw [List.take_length] at hLb hX
          have hF : Hid (lateF n gp l = (lateL gp l, 0)) := by show _ = _; rw [hE.out, hLb.out]; rfl
          have hO := hX.own
          clear hX
          go_wp2
          go_ret2
          exact RetOwnI.of hF.out ⟨_, rfl, hO.rebase hs1, hW.trans (hB.mono hs1)⟩
end Go.Proofs.Ytpkkkigiiaegfaa
