/-
  IsRun, the reference's.
-/
import Derived.Test.YtpkkkigiiaegfaaRunS
import Derived.Test.YtpkkkigiiaegfaaCore
import Derived.IntWalk
namespace Go.Proofs.Ytpkkkigiiaegfaa
open Go.RowKit
set_option linter.unusedVariables false
set_option linter.unusedSimpArgs false

theorem lastT_take (l : List Firing) (k : Nat) (h : k < l.length) (hk : 0 < k) : lastT (l.take k) = (l[k - 1]'(by omega)).time := by
  obtain ⟨j, rfl⟩ : ∃ j, k = j + 1 := ⟨k - 1, by omega⟩
  rw [take_succ_get _ _ (by omega), lastT_snoc]
  rfl
theorem lst_cap {α : Type} {f : α → List Value} {size : Nat} {w : World} {B : Nat} {A : Option Addr} {n c : Nat} {l : List α} (h : Lst f size w B (.slice A n c) l) : l.length ≤ c := by
  obtain ⟨h1, h2, A', c', hv, hc, hr⟩ := h
  injection hv with _ _ hcc
  omega
set_option maxHeartbeats 8000000 in
set_option maxRecDepth 100000 in
theorem spec_IsRun (v : Value) (ge : Int) (gp : List Place) (u : Value) (l : List Firing) (w : World) (h0 : Lst Place.cells 4 w w.heap.size v gp) (h1 : Lst Firing.cells 3 w w.heap.size u l) :
    Calls Try.prog 48 #[.agg #[.int .i64 ge, v], u] w fun e w' => e = .returned (.bool (isRunF ge gp l)) ∧ Below w.heap.size w w' := by
  obtain ⟨A, c, rfl⟩ := h0.shape
  obtain ⟨C, d, rfl⟩ := h1.shape
  have hmax := h1.len_le
  have hcap := lst_cap h1
  go_enter Try.func48, Try.ntmps48
  go_wp2_with fail
  have hW : Below w.heap.size w (w.alloc (.cells #[.int .i64 ge, .slice A gp.length c] 32)) := (Below.refl _ _).alloc (Nat.le_refl _) _; have hb0 : Blk (w.alloc (.cells #[.int .i64 ge, .slice A gp.length c] 32)) w.heap.size 32 #[.int .i64 ge, .slice A gp.length c] := Blk.new _ _ _; replace h0 := h0.now hW; replace h1 := h1.now hW; generalize (w.alloc (.cells #[.int .i64 ge, .slice A gp.length c] 32)) = W at *
  refine (spec_IsEventGraph _ _ _ _ h0).mono ?_
  rintro e w1 ⟨rfl, hB⟩
  replace hW := hW.trans (hB.mono hW.size); replace h0 := h0.now hB; replace h1 := h1.now hB; replace hb0 := hb0.now hB
  clear hB
  have hWs := hW.size
  have l0 := hb0.lt
  cases hg : okGraph ge gp
  · have hE : Hid (isRunF ge gp l = false) := by show _ = _; simp [isRunF, hg]
    clear hg
    go_wp2
    go_ret
    exact ⟨ret_bool hE.out.symm, hW⟩
  · obtain ⟨hge1, hge2⟩ := okGraph_ev hg
    have hg' := Lib.hid hg
    clear hg
    by_cases h5 : l.length ≤ 500
    · have h5b : decide (500 < (l.length : Int)) = false := by simp; omega
      go_wp2
      go_loopw [5, 6, 7, 8, 9] (fun i _ _ _ _ wr => ∃ k : Nat, k ≤ l.length ∧ i = .int .i64 k ∧ Hid (runK ge gp l k = true) ∧ Hid (RunOk ge (l.take k)) ∧ Below w1.heap.size w1 wr) (fun i _ _ _ _ _ => l.length - (intOf i).toNat)
      case atStart => exact ⟨0, Nat.zero_le _, rfl, rfl, RunOk.nil ge, Below.refl _ _⟩
      case round =>
        obtain ⟨k, hk, rfl, hK, hR, hB⟩ := hrel
        have hs := hB.size
        have l0w := (hb0.now hB).lt
        obtain ⟨k0, k1⟩ := (hb0.now hB).c2
        by_cases hlt : k < l.length
        · obtain ⟨b, off, hC0, hbb, c0, c1, c2⟩ := firings_at (h1.now hB) k hlt
          cases hC0
          obtain ⟨f, hf⟩ : ∃ f, l[k] = f := ⟨_, rfl⟩
          have hfH := Lib.hid hf
          rw [hf] at c0 c1 c2
          clear hf
          obtain ⟨ev, nu, ti⟩ := f
          simp only at c0 c1 c2
          obtain ⟨t1, t2⟩ := lastT_nonneg hR.out
          have hft : Hid (okFir ge gp (l.take k) ⟨ev, nu, ti⟩ = false → isRunF ge gp l = false) := fun h => by simp [isRunF, runK_false ge gp l k hlt (by rw [hfH.out]; exact h)]
          have hkd : k ≤ d := by omega
          go_wp2_with fail
          go_region
          have hA1 : Below wr.heap.size wr (World.drew (wr.alloc (.cells #[.int .i64 ev, .int .i64 nu, .int .i64 ti] 94))) := ((Below.refl _ _).alloc (Nat.le_refl _) _).drew
          have hbf : Blk (World.drew (wr.alloc (.cells #[.int .i64 ev, .int .i64 nu, .int .i64 ti] 94))) wr.heap.size 94 #[.int .i64 ev, .int .i64 nu, .int .i64 ti] := Blk.new wr _ _
          replace hB := hB.trans (hA1.mono hs)
          clear c0 c1 c2 k0 k1 l0w hbb hA1 hs
          generalize World.drew (wr.alloc (.cells #[.int .i64 ev, .int .i64 nu, .int .i64 ti] 94)) = V at *
          generalize wr.heap.size = bx at *
          have hs := hB.size
          have l0w := (hb0.now hB).lt
          obtain ⟨k0, k1⟩ := (hb0.now hB).c2
          obtain ⟨f0, f1, f2⟩ := hbf.c3
          have lf := hbf.lt
          have hL := Lib.hid ((h1.now hB).take Firing.cells_len k hk)
          have hlt5 : (l.take k).length ≤ 1000 := by rw [List.length_take]; omega
          have hwg : IntKind.i64.wrap (ge - 1) = ge - 1 := IntWalk.i64_in _ (by omega)
          have cc : Hid (∀ n, Calls Try.prog 140 #[.slice (some ⟨b, off, none⟩) k d, .int .i64 ev] (V.drewN n) fun r w' => r = .returned (.int .i64 (timesIn (l.take k) ev).length) ∧ V.drewN n = w') := fun n => l14Count _ _ _ _ (hL.out.now (below_drewN (Below.refl _ _) n)) hlt5
          have hcb := timesIn_len (l.take k) ev
          rw [List.length_take, Nat.min_eq_left hk] at hcb
          go_wp2_with fail
          cases e1 : inB ev 0 (ge - 1)
          · skip
            have hE := Lib.hid (hft.out (by simp [okFir, e1]))
            clear hft hg' h5b t1 t2 cc
            go_quiet ((first | (go_at_call 113; exact quiet_left (spec_l01In _ _ _ _)) | (go_at_call 140; exact quiet_left (cc.out _))))
            go_wp2
            go_ret
            exact ⟨ret_bool hE.out.symm, hW.trans ((below_drewN hB _).mono hWs)⟩
          · skip
            by_cases e2 : nu = (timesIn (l.take k) ev).length + 1
            · have q2 : (nu != ((timesIn (l.take k) ev).length : Int) + 1) = false := by simp [e2]
              cases e3 : inB ti 0 1000000
              · skip
                have hE : Hid (isRunF ge gp l = false) := hft.out (by simp [okFir, e3])
                clear hft e2 hg' h5b t1 t2
                go_quiet ((first | (go_at_call 113; exact quiet_left (spec_l01In _ _ _ _)) | (go_at_call 140; exact quiet_left (cc.out _))))
                go_wp2
                go_ret
                exact ⟨ret_bool hE.out.symm, hW.trans ((below_drewN hB _).mono hWs)⟩
              · skip
                obtain ⟨y1, y2⟩ := (inB_iff _ _ _).1 e3
                by_cases hk0 : 0 < k
                · have q4 : decide ((0 : Int) < (k : Int)) = true := by simp; omega
                  have hkn : ((k : Int) - 1).toNat = k - 1 := by omega
                  have hkw : IntKind.i64.wrap ((k : Int) - 1) = (k : Int) - 1 := IntWalk.i64_in _ (by omega)
                  obtain ⟨b2, off2, hC2, _, g0, g1, g2⟩ := firings_at (h1.now hB) (k - 1) (by omega)
                  cases hC2
                  have hla := lastT_take l k hlt hk0
                  obtain ⟨pt, hpt⟩ : ∃ pt, (l[k - 1]'(by omega)).time = pt := ⟨_, rfl⟩
                  rw [hpt] at hla g2
                  clear hpt
                  by_cases e4 : ti < pt
                  · have q5 : decide (ti < pt) = true := decide_eq_true e4
                    have hE : Hid (isRunF ge gp l = false) := hft.out (by simp [okFir, hla]; intros; omega)
                    clear hft e2 hg' h5b t1 t2 e4 hla
                    go_quiet ((first | (go_at_call 113; exact quiet_left (spec_l01In _ _ _ _)) | (go_at_call 140; exact quiet_left (cc.out _))))
                    go_wp2
                    go_ret
                    exact ⟨ret_bool hE.out.symm, hW.trans ((below_drewN hB _).mono hWs)⟩
                  · have q5 : decide (ti < pt) = false := decide_eq_false e4
                    have hle : lastT (l.take k) ≤ ti := by omega
                    clear hla e4
                    cases e5 : readyS gp (timesIn (l.take k)) ev with
                    | none =>
                      have hE : Hid (isRunF ge gp l = false) := hft.out (by simp [okFir, e5])
                      have c5 : Hid (∀ X : World, Lst Place.cells 4 X X.heap.size (.slice A gp.length c) gp → Lst Firing.cells 3 X X.heap.size (.slice (some ⟨b, off, none⟩) k d) (l.take k) → Calls Try.prog 142 #[.agg #[.int .i64 ge, .slice A gp.length c], .slice (some ⟨b, off, none⟩) k d, .int .i64 ev] X fun r w' => r = .returned (.tuple #[.int .i64 0, .bool false]) ∧ Below X.heap.size X w') :=
                        fun X hX hY => by have := l14Ready (.slice A gp.length c) ge gp (.slice (some ⟨b, off, none⟩) k d) (l.take k) ev X hX hY hg'.out hlt5 hR.out; rw [e5] at this; exact this
                      clear hft e2 hg' h5b t1 t2 hle e5
                      go_quiet ((first | (go_at_call 113; exact quiet_left (spec_l01In _ _ _ _)) | (go_at_call 140; exact quiet_left (cc.out _))))
                      go_wp2_with (go_at_call 142; refine (c5.out _ (Lst.now (h0.now hB) (below_drewN (Below.refl _ _) _)) (Lst.now hL.out (below_drewN (Below.refl _ _) _))).mono ?_; rintro e w5 ⟨rfl, hB5⟩; have hbf5 := Blk.now (w := World.drewN V _) hbf hB5; obtain ⟨f0, f1, f2⟩ := hbf5.c3; have lf5 := hbf5.lt)
                      go_ret
                      exact ⟨ret_bool hE.out.symm, hW.trans (((below_drewN hB _).trans (hB5.mono hs)).mono hWs)⟩
                    | some t =>
                      have c5 : Hid (∀ X : World, Lst Place.cells 4 X X.heap.size (.slice A gp.length c) gp → Lst Firing.cells 3 X X.heap.size (.slice (some ⟨b, off, none⟩) k d) (l.take k) → Calls Try.prog 142 #[.agg #[.int .i64 ge, .slice A gp.length c], .slice (some ⟨b, off, none⟩) k d, .int .i64 ev] X fun r w' => r = .returned (.tuple #[.int .i64 t, .bool true]) ∧ Below X.heap.size X w') :=
                        fun X hX hY => by have := l14Ready (.slice A gp.length c) ge gp (.slice (some ⟨b, off, none⟩) k d) (l.take k) ev X hX hY hg'.out hlt5 hR.out; rw [e5] at this; exact this
                      by_cases e6 : t ≤ ti
                      · have q6 : decide (ti < t) = false := by simp; omega
                        have hok : okFir ge gp (l.take k) ⟨ev, nu, ti⟩ = true := by simp [okFir, e1, e2, e3, e5, e6, hle]
                        have hK' : Hid (runK ge gp l (k + 1) = true) := by show _ = _; rw [runK_succ _ _ _ _ hlt, hK.out, hfH.out, hok]; rfl
                        have hR' : Hid (RunOk ge (l.take (k + 1))) := by show RunOk _ _; rw [take_succ_get _ _ hlt, hfH.out]; exact hR.out.snoc hok
                        clear hft e2 hg' h5b t1 t2 hle e5 e6 hok
                        go_quiet ((first | (go_at_call 113; exact quiet_left (spec_l01In _ _ _ _)) | (go_at_call 140; exact quiet_left (cc.out _))))
                        go_wp2_with (go_at_call 142; refine (c5.out _ (Lst.now (h0.now hB) (below_drewN (Below.refl _ _) _)) (Lst.now hL.out (below_drewN (Below.refl _ _) _))).mono ?_; rintro e w5 ⟨rfl, hB5⟩; have hbf5 := Blk.now (w := World.drewN V _) hbf hB5; obtain ⟨f0, f1, f2⟩ := hbf5.c3; have lf5 := hbf5.lt)
                        go_roundw
                        case rel => exact ⟨k + 1, hlt, by go_num, hK', hR', (below_drewN hB _).trans (hB5.mono hs)⟩
                        case measure => simp [intOf]; omega
                      · have q6 : decide (ti < t) = true := by simp; omega
                        have hE : Hid (isRunF ge gp l = false) := hft.out (by simp [okFir, e5, e6])
                        clear hft e2 hg' h5b t1 t2 hle e5 e6
                        go_quiet ((first | (go_at_call 113; exact quiet_left (spec_l01In _ _ _ _)) | (go_at_call 140; exact quiet_left (cc.out _))))
                        go_wp2_with (go_at_call 142; refine (c5.out _ (Lst.now (h0.now hB) (below_drewN (Below.refl _ _) _)) (Lst.now hL.out (below_drewN (Below.refl _ _) _))).mono ?_; rintro e w5 ⟨rfl, hB5⟩; have hbf5 := Blk.now (w := World.drewN V _) hbf hB5; obtain ⟨f0, f1, f2⟩ := hbf5.c3; have lf5 := hbf5.lt)
                        go_ret
                        exact ⟨ret_bool hE.out.symm, hW.trans (((below_drewN hB _).trans (hB5.mono hs)).mono hWs)⟩
                · have q4 : decide ((0 : Int) < (k : Int)) = false := by simp; omega
                  have hkz : k = 0 := by omega
                  have hle : lastT (l.take k) ≤ ti := by rw [hkz]; simpa [lastT] using y1
                  clear hkz
                  cases e5 : readyS gp (timesIn (l.take k)) ev with
                  | none =>
                    have hE : Hid (isRunF ge gp l = false) := hft.out (by simp [okFir, e5])
                    have c5 : Hid (∀ X : World, Lst Place.cells 4 X X.heap.size (.slice A gp.length c) gp → Lst Firing.cells 3 X X.heap.size (.slice (some ⟨b, off, none⟩) k d) (l.take k) → Calls Try.prog 142 #[.agg #[.int .i64 ge, .slice A gp.length c], .slice (some ⟨b, off, none⟩) k d, .int .i64 ev] X fun r w' => r = .returned (.tuple #[.int .i64 0, .bool false]) ∧ Below X.heap.size X w') :=
                      fun X hX hY => by have := l14Ready (.slice A gp.length c) ge gp (.slice (some ⟨b, off, none⟩) k d) (l.take k) ev X hX hY hg'.out hlt5 hR.out; rw [e5] at this; exact this
                    clear hft e2 hg' h5b t1 t2 hle e5
                    go_quiet ((first | (go_at_call 113; exact quiet_left (spec_l01In _ _ _ _)) | (go_at_call 140; exact quiet_left (cc.out _))))
                    go_wp2_with (go_at_call 142; refine (c5.out _ (Lst.now (h0.now hB) (below_drewN (Below.refl _ _) _)) (Lst.now hL.out (below_drewN (Below.refl _ _) _))).mono ?_; rintro e w5 ⟨rfl, hB5⟩; have hbf5 := Blk.now (w := World.drewN V _) hbf hB5; obtain ⟨f0, f1, f2⟩ := hbf5.c3; have lf5 := hbf5.lt)
                    go_ret
                    exact ⟨ret_bool hE.out.symm, hW.trans (((below_drewN hB _).trans (hB5.mono hs)).mono hWs)⟩
                  | some t =>
                    have c5 : Hid (∀ X : World, Lst Place.cells 4 X X.heap.size (.slice A gp.length c) gp → Lst Firing.cells 3 X X.heap.size (.slice (some ⟨b, off, none⟩) k d) (l.take k) → Calls Try.prog 142 #[.agg #[.int .i64 ge, .slice A gp.length c], .slice (some ⟨b, off, none⟩) k d, .int .i64 ev] X fun r w' => r = .returned (.tuple #[.int .i64 t, .bool true]) ∧ Below X.heap.size X w') :=
                      fun X hX hY => by have := l14Ready (.slice A gp.length c) ge gp (.slice (some ⟨b, off, none⟩) k d) (l.take k) ev X hX hY hg'.out hlt5 hR.out; rw [e5] at this; exact this
                    by_cases e6 : t ≤ ti
                    · have q6 : decide (ti < t) = false := by simp; omega
                      have hok : okFir ge gp (l.take k) ⟨ev, nu, ti⟩ = true := by simp [okFir, e1, e2, e3, e5, e6, hle]
                      have hK' : Hid (runK ge gp l (k + 1) = true) := by show _ = _; rw [runK_succ _ _ _ _ hlt, hK.out, hfH.out, hok]; rfl
                      have hR' : Hid (RunOk ge (l.take (k + 1))) := by show RunOk _ _; rw [take_succ_get _ _ hlt, hfH.out]; exact hR.out.snoc hok
                      clear hft e2 hg' h5b t1 t2 hle e5 e6 hok
                      go_quiet ((first | (go_at_call 113; exact quiet_left (spec_l01In _ _ _ _)) | (go_at_call 140; exact quiet_left (cc.out _))))
                      go_wp2_with (go_at_call 142; refine (c5.out _ (Lst.now (h0.now hB) (below_drewN (Below.refl _ _) _)) (Lst.now hL.out (below_drewN (Below.refl _ _) _))).mono ?_; rintro e w5 ⟨rfl, hB5⟩; have hbf5 := Blk.now (w := World.drewN V _) hbf hB5; obtain ⟨f0, f1, f2⟩ := hbf5.c3; have lf5 := hbf5.lt)
                      go_roundw
                      case rel => exact ⟨k + 1, hlt, by go_num, hK', hR', (below_drewN hB _).trans (hB5.mono hs)⟩
                      case measure => simp [intOf]; omega
                    · have q6 : decide (ti < t) = true := by simp; omega
                      have hE : Hid (isRunF ge gp l = false) := hft.out (by simp [okFir, e5, e6])
                      clear hft e2 hg' h5b t1 t2 hle e5 e6
                      go_quiet ((first | (go_at_call 113; exact quiet_left (spec_l01In _ _ _ _)) | (go_at_call 140; exact quiet_left (cc.out _))))
                      go_wp2_with (go_at_call 142; refine (c5.out _ (Lst.now (h0.now hB) (below_drewN (Below.refl _ _) _)) (Lst.now hL.out (below_drewN (Below.refl _ _) _))).mono ?_; rintro e w5 ⟨rfl, hB5⟩; have hbf5 := Blk.now (w := World.drewN V _) hbf hB5; obtain ⟨f0, f1, f2⟩ := hbf5.c3; have lf5 := hbf5.lt)
                      go_ret
                      exact ⟨ret_bool hE.out.symm, hW.trans (((below_drewN hB _).trans (hB5.mono hs)).mono hWs)⟩
            · have q2 : (nu != ((timesIn (l.take k) ev).length : Int) + 1) = true := by simpa using e2
              have hE := Lib.hid (hft.out (by simp [okFir, e2]))
              clear hft e2 hg' h5b t1 t2
              go_quiet ((first | (go_at_call 113; exact quiet_left (spec_l01In _ _ _ _)) | (go_at_call 140; exact quiet_left (cc.out _))))
              go_wp2
              go_ret
              exact ⟨ret_bool hE.out.symm, hW.trans ((below_drewN hB _).mono hWs)⟩
        · obtain rfl : k = l.length := by omega
          have hE : Hid (isRunF ge gp l = true) := by show _ = _; simp [isRunF, hg'.out, h5, hK.out]
          go_wp2
          go_ret
          exact ⟨ret_bool hE.out.symm, hW.trans (hB.mono hWs)⟩
    · have h5b : decide (500 < (l.length : Int)) = true := by simp; omega
      have hE : Hid (isRunF ge gp l = false) := by show _ = _; simp [isRunF, h5]
      go_wp2
      go_ret
      exact ⟨ret_bool hE.out.symm, hW⟩
end Go.Proofs.Ytpkkkigiiaegfaa
