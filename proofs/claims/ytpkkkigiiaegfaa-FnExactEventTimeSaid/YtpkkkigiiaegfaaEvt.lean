/-
  The walks of EventTime, the program's and the reference's.
-/
import Derived.Test.YtpkkkigiiaegfaaRch
import Derived.Test.YtpkkkigiiaegfaaCirI
import Derived.Test.YtpkkkigiiaegfaaCirS
import Derived.Test.YtpkkkigiiaegfaaLoad
namespace Go.Proofs.Ytpkkkigiiaegfaa
open Go.RowKit
set_option linter.unusedVariables false
set_option linter.unusedSimpArgs false
/-- The place's end reaches the event. -/
def rchB (n : Nat) (gp : List Place) (ev : Nat) (p : Place) : Bool := decide (itF n (tokF gp) n ev p.dst.toNat ≠ bot)
def upL (n : Nat) (gp : List Place) (ev k : Nat) : List Place := (gp.take k).filter (rchB n gp ev)
theorem upL_hit {n : Nat} {gp : List Place} {ev k : Nat} {p : Place} (hk : k < gp.length) (hp : gp[k] = p) (h : rchB n gp ev p = true) : upL n gp ev (k + 1) = upL n gp ev k ++ [p] := by
  unfold upL
  rw [take_succ_get _ _ hk, List.filter_append, hp]
  simp [h]
theorem upL_miss {n : Nat} {gp : List Place} {ev k : Nat} {p : Place} (hk : k < gp.length) (hp : gp[k] = p) (h : rchB n gp ev p = false) : upL n gp ev (k + 1) = upL n gp ev k := by
  unfold upL
  rw [take_succ_get _ _ hk, List.filter_append, hp]
  simp [h]
theorem upL_len (n : Nat) (gp : List Place) (ev k : Nat) : (upL n gp ev k).length ≤ k := by
  unfold upL
  exact Nat.le_trans (List.length_filter_le _ _) (by simp; omega)
theorem up_ok {n : Nat} {gp : List Place} {ev : Nat} (hg : okGraph n gp = true) : okGraph n (upL n gp ev gp.length) = true := by
  unfold okGraph at hg ⊢
  rw [Bool.and_eq_true, Bool.and_eq_true, decide_eq_true_eq, List.all_eq_true] at hg
  rw [Bool.and_eq_true, Bool.and_eq_true, decide_eq_true_eq, List.all_eq_true]
  have h9 := upL_len n gp ev gp.length
  exact ⟨⟨hg.1.1, by omega⟩, fun p hp => hg.2 p (List.mem_of_mem_take (List.mem_filter.1 hp).1)⟩
theorem dist_ne {n : Nat} {gp : List Place} (hg : okGraph n gp = true) {f i : Nat} (hf : f < n) (hi : i < n) : 0 ≤ distD n gp f i ↔ itF n (tokF gp) n i f ≠ bot := by
  have h2 := (distD_small hg f i hf hi).2.2
  unfold distD
  by_cases e : itF n (tokF gp) n i f = bot
  · rw [if_pos e]; simp [e]
  · rw [if_neg e]
    rcases h2 with h2 | h2
    · exact absurd h2 e
    · exact ⟨fun _ => e, fun _ => by omega⟩
/-- What EventTime gives. -/
noncomputable def evtF (ge : Int) (gp : List Place) (ev : Int) : Int × Int × Int :=
  if okGraph ge gp = false then (0, 0, 1) else if inB ev 0 (ge - 1) = false then (0, 0, 2) else if (orderF ge.toNat gp).isNone = true then (0, 0, 5) else ctF ge (upL ge.toNat gp ev.toNat gp.length)
theorem evt_code {ge : Int} {gp : List Place} {ev : Int} (h : evCode ge gp ev ≠ 0) : evtF ge gp ev = (0, 0, evCode ge gp ev) := by
  unfold evCode at h ⊢
  unfold evtF
  split
  · rfl
  · split
    · rfl
    · rename_i h1 h2
      rw [if_neg h1, if_neg h2] at h
      exact absurd rfl h
theorem evt_dead {n : Nat} {gp : List Place} {ev : Int} (h : evCode n gp ev = 0) (h2 : (orderF n gp).isSome = false) : evtF n gp ev = (0, 0, 5) := by
  obtain ⟨h3, h4, h5⟩ := evCode_zero h
  have h6 : inB ev 0 ((n : Int) - 1) = true := (inB_iff _ _ _).2 ⟨by omega, by omega⟩
  have h7 : (orderF n gp).isNone = true := by cases h9 : orderF n gp with | none => rfl | some o => rw [h9] at h2; cases h2
  simp [evtF, h3, h6, h7]
theorem evt_ok {n ev : Nat} {gp : List Place} (h : evCode n gp ev = 0) (h2 : (orderF n gp).isSome = true) : evtF n gp ev = ctF n (upL n gp ev gp.length) := by
  obtain ⟨h3, h4, h5⟩ := evCode_zero h
  have h6 : inB (ev : Int) 0 ((n : Int) - 1) = true := (inB_iff _ _ _).2 ⟨by omega, by omega⟩
  have h7 : ¬ (orderF n gp).isNone = true := by cases h9 : orderF n gp with | none => rw [h9] at h2; cases h2 | some o => simp
  unfold evtF
  rw [if_neg (by rw [h3]; simp), if_neg (by rw [h6]; simp), Int.toNat_natCast, if_neg h7, Int.toNat_natCast]
theorem timC_ev {ge : Int} {gp : List Place} {ev : Int} (h : timC ge gp (inB ev 0 (ge - 1)) ≠ 0) : evtF ge gp ev = (0, 0, timC ge gp (inB ev 0 (ge - 1))) := by
  unfold timC at h ⊢
  unfold evtF
  split
  · rfl
  · split
    · rfl
    · split
      · rfl
      · rename_i h1 h2 h3
        rw [if_neg h1, if_neg h2, if_neg h3] at h
        exact absurd rfl h
theorem retR_lift {F : Int × Int × Int} {r : Ending} {w w' : World} {G : Int × Int × Int} (hE : G = F) (hr : r = .returned (.tuple #[.agg #[.int .i64 F.1, .int .i64 F.2.1], .int .i64 F.2.2])) (hB : Below w.heap.size w w') :
    r = .returned (.tuple #[.agg #[.int .i64 G.1, .int .i64 G.2.1], .int .i64 G.2.2]) ∧ Below w.heap.size w w' := by
  subst hE
  exact ⟨hr, hB⟩
set_option maxHeartbeats 8000000 in
set_option maxRecDepth 100000 in
theorem impl_EventTime (v : Value) (ge : Int) (gp : List Place) (ev : Int) (w : World) (h0 : Lst Place.cells 4 w w.heap.size v gp) :
    Calls Try.prog 27 #[.agg #[.int .i64 ge, v], .int .i64 ev] w fun e w' => e = .returned (.tuple #[.agg #[.int .i64 (evtF ge gp ev).1, .int .i64 (evtF ge gp ev).2.1], .int .i64 (evtF ge gp ev).2.2]) ∧ Below w.heap.size w w' := by
  obtain ⟨A, c, rfl⟩ := h0.shape
  go_enter Try.func27, Try.ntmps27
  go_wp2_with fail
  have hW : Below w.heap.size w ((w.alloc (.cells #[.int .i64 ge, .slice A gp.length c] 32)).alloc (.cells #[.int .i64 0, .int .i64 0] 27)) := (((Below.refl _ _).alloc (Nat.le_refl _) _).alloc (by first | (simp; done) | (simp; omega)) _); have hb0 : Blk ((w.alloc (.cells #[.int .i64 ge, .slice A gp.length c] 32)).alloc (.cells #[.int .i64 0, .int .i64 0] 27)) (w.heap.size) 32 #[.int .i64 ge, .slice A gp.length c] := ((Blk.newAt w _ (by first | rfl | (simp; done) | (simp; omega))).alloc _); have hb1 : Blk ((w.alloc (.cells #[.int .i64 ge, .slice A gp.length c] 32)).alloc (.cells #[.int .i64 0, .int .i64 0] 27)) (w.heap.size + 1) 27 #[.int .i64 0, .int .i64 0] := (Blk.newAt (w.alloc (.cells #[.int .i64 ge, .slice A gp.length c] 32)) _ (by first | rfl | (simp; done) | (simp; omega))); replace h0 := h0.now hW; have hsW : w.heap.size + 2 = ((w.alloc (.cells #[.int .i64 ge, .slice A gp.length c] 32)).alloc (.cells #[.int .i64 0, .int .i64 0] 27)).heap.size := (by first | rfl | (simp; done) | (simp; omega)); generalize ((w.alloc (.cells #[.int .i64 ge, .slice A gp.length c] 32)).alloc (.cells #[.int .i64 0, .int .i64 0] 27)) = W at *; replace hsW := Lib.hid hsW
  refine (impl_checkEvent _ ge gp ev _ h0).mono ?_
  rintro e w1 ⟨rfl, hB⟩
  replace hW := hW.trans (hB.mono hW.size); replace h0 := h0.now hB; replace hb0 := hb0.now hB; replace hb1 := hb1.now hB
  clear hB
  obtain ⟨k0, k1⟩ := hb0.c2
  obtain ⟨r0, r1⟩ := hb1.c2
  obtain ⟨z0, z1⟩ := hb1.f2
  have lb := hb1.lt
  by_cases hc : evCode ge gp ev = 0
  · obtain ⟨hg, he0, he1⟩ := evCode_zero hc
    have hge := okGraph_ev hg
    obtain ⟨n, rfl⟩ := Int.eq_ofNat_of_zero_le (show 0 ≤ ge by omega)
    obtain ⟨ev, rfl⟩ := Int.eq_ofNat_of_zero_le he0
    have hgH := Lib.hid hg
    have hgl := okGraph_len hg
    have hcH := Lib.hid hc
    rw [hc]
    clear hg hc r0 r1 z0 z1 lb
    go_wp2_with fail
    clear k0 k1
    refine (impl_isLive _ n gp _ h0 hgH).mono ?_
    rintro e w2 ⟨rfl, hB⟩
    replace hW := hW.trans (hB.mono hW.size); replace h0 := h0.now hB; replace hb0 := hb0.now hB; replace hb1 := hb1.now hB
    clear hB
    obtain ⟨k0, k1⟩ := hb0.c2
    obtain ⟨r0, r1⟩ := hb1.c2
    obtain ⟨z0, z1⟩ := hb1.f2
    have lb := hb1.lt
    cases ho : (orderF n gp).isSome
    · have hE := Lib.hid (evt_dead hcH.out ho)
      clear ho
      go_wp2
      refine bodyPost_ret (v := .tuple #[.agg #[.int .i64 0, .int .i64 0], .int .i64 5]) (by simp [results, Try.results27, go_sem, r0, r1]) rfl (retR_of hE.out rfl ?_)
      first | exact hW | exact ((hW.setCell (by simp <;> omega) _).setCell (by simp <;> omega) _)
    · have hE := Lib.hid (evt_ok hcH.out ho)
      have hgq := Lib.hid (up_ok (ev := ev) hgH.out)
      clear ho r0 r1 z0 z1 lb
      have l0 := hb0.lt
      have hA2 : Below w2.heap.size w2 (w2.alloc (.cells #[.int .i64 (n : Int), .slice none 0 0] 32)) := (Below.refl _ _).alloc (Nat.le_refl _) _
      have hbu := Blk.newAt w2 (t := 32) (cs := #[.int .i64 (n : Int), .slice none 0 0]) _ rfl
      go_wp2
      clear k0 k1 l0
      go_loopw [9, 27] (fun _ i wr => ∃ (k : Nat) (UA : Option Addr) (uc : Nat), k ≤ gp.length ∧ i = .int .i64 k ∧ Blk wr w2.heap.size 32 #[.int .i64 (n : Int), .slice UA (upL n gp ev k).length uc] ∧ Own Place.cells 4 65 wr (w2.heap.size + 1) (.slice UA (upL n gp ev k).length uc) (upL n gp ev k) ∧ Below w2.heap.size w2 wr) (fun _ i _ => gp.length - (intOf i).toNat)
      case atStart => exact ⟨0, none, 0, Nat.zero_le _, rfl, hbu, Own.nil, hA2⟩
      case round =>
        clear hbu hA2
        obtain ⟨k, UA, uc, hk, rfl, hbu, hO, hB⟩ := hrel
        obtain ⟨k0, k1⟩ := (hb0.now hB).c2
        have l0 := (hb0.now hB).lt
        by_cases hlt : k < gp.length
        · obtain ⟨b, off, hA1, _, d0, d1, d2, d3⟩ := places_at (h0.now hB) k hlt
          cases hA1
          have hp := okGraph_place hgH.out (List.getElem_mem hlt)
          obtain ⟨sr, hsr⟩ : ∃ sr, gp[k].src = sr := ⟨_, rfl⟩
          obtain ⟨d, hd⟩ := Int.eq_ofNat_of_zero_le hp.2.1.1
          obtain ⟨dl, hdl⟩ : ∃ dl, gp[k].delay = dl := ⟨_, rfl⟩
          obtain ⟨tk, htk⟩ : ∃ tk, gp[k].tokens = tk := ⟨_, rfl⟩
          have hdn : d < n := by omega
          have hpk : Hid (gp[k] = ⟨sr, d, dl, tk⟩) := by show _ = _; rw [← hsr, ← hd, ← hdl, ← htk]
          rw [hsr] at d0
          rw [hd] at d1
          rw [hdl] at d2
          rw [htk] at d3
          clear hsr hd hdl htk hp
          have hA3 : Below wr.heap.size wr (wr.alloc (.cells #[.int .i64 sr, .int .i64 (d : Int), .int .i64 dl, .int .i64 tk] 65)) := (Below.refl _ _).alloc (Nat.le_refl _) _
          have hbp := Blk.newAt wr (t := 65) (cs := #[.int .i64 sr, .int .i64 (d : Int), .int .i64 dl, .int .i64 tk]) _ rfl
          have hBV := hB.trans (hA3.mono hB.size)
          have g0 := h0.now hBV
          go_wp2_with fail
          clear d0 d1 d2 d3 k0 k1 l0 hB
          refine (impl_tokenDistances _ n gp d _ g0 hgH hdn).mono ?_
          rintro e5 w5 ⟨x5, rfl, hO5, hB5⟩
          obtain ⟨g5, c5, rfl, rc⟩ := dist_at hO5 ev (by omega)
          have hiff := dist_ne hgH.out (f := d) (i := ev) hdn (by omega)
          obtain ⟨dv, hdv⟩ : ∃ dv, distD n gp d ev = dv := ⟨_, rfl⟩
          rw [hdv] at rc hiff
          replace hbu := (hbu.now hA3).now hB5
          replace hbp := hbp.now hB5
          replace hO := (hO.now hA3).now hB5
          replace hBV := hBV.trans (hB5.mono hBV.size)
          clear hA3 hB5 hO5 hdv g0
          generalize wr.heap.size = bp at *
          obtain ⟨p0, p1, p2, p3⟩ := hbp.c4
          obtain ⟨u0, u1⟩ := hbu.c2
          have i1 : (0 : Int) ≤ (ev : Int) := by omega
          have i2 : (ev : Int) < (n : Int) := by omega
          by_cases hge0 : 0 ≤ dv
          · have hnx := Lib.hid (upL_hit hlt hpk.out (decide_eq_true (show itF n (tokF gp) n ev (d : Int).toNat ≠ bot by rw [Int.toNat_natCast]; exact hiff.1 hge0)))
            have hll := upL_len n gp ev k
            clear hiff
            obtain ⟨L, hL⟩ : ∃ L, upL n gp ev k = L := ⟨_, rfl⟩
            rw [hL] at hO hbu u1 hll
            replace hnx : Hid (upL n gp ev (k + 1) = L ++ [⟨sr, d, dl, tk⟩]) := by rw [← hL]; exact hnx
            clear hL
            have hlen : L.length + [(⟨sr, d, dl, tk⟩ : Place)].length ≤ 1099511627776 := by simp; omega
            have hLL : Hid ((L ++ [(⟨sr, d, dl, tk⟩ : Place)]).length = L.length + 1) := by show _ = _; simp
            have hZ : Below w5.heap.size w5 (w5.alloc (.cells #[.int .i64 sr, .int .i64 (d : Int), .int .i64 dl, .int .i64 tk] 65)) := (Below.refl _ _).alloc (Nat.le_refl _) _
            have hOz := Lib.hid (hO.now hZ)
            have hbz := Lib.hid (hbu.now hZ)
            have hBz := Lib.hid (hBV.trans (hZ.mono hBV.size))
            have hsz := hbu.lt
            have lp := hbp.lt
            clear hZ hO hBV
            go_wp2_with (at_builtin; refine wpList_append_lst rfl _ _ 30 rfl Place.cells 4 Place.cells_one (by omega) (w2.heap.size + 1) 65 _ 32 Try.underlying30 info_place rfl _ _ rfl hOz.out _ _ _ _ [(⟨sr, d, dl, tk⟩ : Place)] rfl (lst_new1 _ _ Place.cells_len _ _ _ _ rfl _ (by simp)) hlen (by omega) (Nat.le_trans hsz (by simp)) ?_; intro v' w9 hO1 hG1 hD1; obtain ⟨V1, cv1, rfl⟩ := own_shape_n hO1 hLL.out; have hbu9 := hbz.out.grown hG1 (fun e => hOz.out.ne_blk hbz.out (by decide) e.symm); have lu9 := hbu9.lt; have fu9 := hbu9.frozen 1; obtain ⟨u09, u19⟩ := hbu9.c2)
            have hB9 := hBz.out.grown hG1 hBz.out.size (fun q e => by have := (hOz.out.lt q e).1; omega)
            have hO9 := own_far hO1 (p := ⟨w2.heap.size, 1, none⟩) (hO1.ne_blk hbu9 (by decide)) (.slice V1 (L.length + 1) cv1)
            have hbx9 := hbu9.set2b (u := .slice V1 (L.length + 1) cv1)
            have hBx := hB9.setCell (p := ⟨w2.heap.size, 1, none⟩) (Nat.le_refl _) (.slice V1 (L.length + 1) cv1)
            clear hG1 hD1 hOz hbz hBz hO1 hbu9 lu9 fu9 u09 u19 hbu hB9
            go_wp2
            go_roundw
            case rel => exact ⟨k + 1, V1, cv1, hlt, by go_num, by rw [hnx.out, hLL.out]; exact hbx9, by rw [hnx.out, hLL.out]; exact hO9, hBx⟩
            case measure => simp [intOf]; omega
          · have hnx := Lib.hid (upL_miss hlt hpk.out (decide_eq_false (show ¬ itF n (tokF gp) n ev (d : Int).toNat ≠ bot by rw [Int.toNat_natCast]; exact fun h => hge0 (hiff.2 h))))
            clear hiff
            go_wp2
            go_roundw
            case rel => exact ⟨k + 1, UA, uc, hlt, by go_num, by rw [hnx.out]; exact hbu, by rw [hnx.out]; exact hO, hBV⟩
            case measure => simp [intOf]; omega
        · obtain rfl : k = gp.length := by omega
          obtain ⟨u0, u1⟩ := hbu.c2
          generalize upL n gp ev gp.length = gq at *
          clear hlt
          go_wp2_with fail
          clear k0 k1 l0 u0 u1
          refine (impl_cycleTime _ n gq _ hO.lst hgq).mono ?_
          rintro e w5 ⟨rfl, hB5⟩
          replace hb1 := (hb1.now hB).now hB5
          obtain ⟨a, bq, cd, hctF⟩ : ∃ a b cd, ctF n gq = (a, b, cd) := ⟨_, _, _, rfl⟩
          rw [hctF]
          have hE2 := Lib.hid (hE.out.trans hctF)
          clear hctF
          obtain ⟨x0, x1⟩ := hb1.c2
          obtain ⟨z0, z1⟩ := hb1.f2
          have lb := hb1.lt
          have hWr := hW.trans ((hB.trans (hB5.mono hB.size)).mono hW.size)
          clear hB hB5 hO hbu
          go_wp2
          refine bodyPost_ret (v := .tuple #[.agg #[.int .i64 a, .int .i64 bq], .int .i64 cd]) (by simp [results, Try.results27, go_sem, x0, x1]) rfl (retR_of hE2.out rfl ?_)
          first | exact hWr | exact ((hWr.setCell (by simp <;> omega) _).setCell (by simp <;> omega) _)
  · have hE := Lib.hid (evt_code hc)
    obtain ⟨cd, hcd⟩ : ∃ cd, evCode ge gp ev = cd := ⟨_, rfl⟩
    rw [hcd] at hE hc ⊢
    have q1 : (cd != 0) = true := by simpa using hc
    clear hcd hc
    go_wp2
    refine bodyPost_ret (v := .tuple #[.agg #[.int .i64 0, .int .i64 0], .int .i64 cd]) (by simp [results, Try.results27, go_sem, r0, r1]) rfl (retR_of hE.out rfl ?_)
    first | exact hW | exact ((hW.setCell (by simp <;> omega) _).setCell (by simp <;> omega) _)
theorem refB_at {w : World} {base : Nat} {u : Value} {rs : List Ref} {e : TypeId} (h : Own Ref.cells 1 e w base u rs) (q : Nat) (hq : q < rs.length) : ∃ b c, u = .slice (some ⟨b, 0, none⟩) rs.length c ∧ w.cell? ⟨b, q, none⟩ = some rs[q].val := by
  obtain ⟨b, c, hu, hb, _, _, hc⟩ := h.at_ Ref.cells_len q hq
  exact ⟨b, c, hu, by simpa using hc 0 _ (by omega) rfl⟩
set_option maxHeartbeats 8000000 in
set_option maxRecDepth 100000 in
theorem spec_EventTime (v : Value) (ge : Int) (gp : List Place) (ev : Int) (w : World) (h0 : Lst Place.cells 4 w w.heap.size v gp) :
    Calls Try.prog 26 #[.agg #[.int .i64 ge, v], .int .i64 ev] w fun e w' => e = .returned (.tuple #[.agg #[.int .i64 (evtF ge gp ev).1, .int .i64 (evtF ge gp ev).2.1], .int .i64 (evtF ge gp ev).2.2]) ∧ Below w.heap.size w w' := by
  obtain ⟨A, c, rfl⟩ := h0.shape
  obtain ⟨gm, hgm⟩ : ∃ gm, IntKind.i64.wrap (ge - 1) = gm := ⟨_, rfl⟩
  have hT : Hid (timC ge gp (inB ev 0 gm) = timC ge gp (inB ev 0 (ge - 1))) := by
    show _ = _
    cases hg : okGraph ge gp
    · simp [timC, hg]
    · have := okGraph_ev hg
      rw [← hgm, IntWalk.i64_in (ge - 1) (by omega)]
  go_enter Try.func26, Try.ntmps26
  go_wp2_with fail
  have hW : Below w.heap.size w ((w.alloc (.cells #[.int .i64 ge, .slice A gp.length c] 32)).alloc (.cells #[.int .i64 0, .int .i64 0] 27)) := (((Below.refl _ _).alloc (Nat.le_refl _) _).alloc (by first | (simp; done) | (simp; omega)) _); have hb0 : Blk ((w.alloc (.cells #[.int .i64 ge, .slice A gp.length c] 32)).alloc (.cells #[.int .i64 0, .int .i64 0] 27)) (w.heap.size) 32 #[.int .i64 ge, .slice A gp.length c] := ((Blk.newAt w _ (by first | rfl | (simp; done) | (simp; omega))).alloc _); have hb1 : Blk ((w.alloc (.cells #[.int .i64 ge, .slice A gp.length c] 32)).alloc (.cells #[.int .i64 0, .int .i64 0] 27)) (w.heap.size + 1) 27 #[.int .i64 0, .int .i64 0] := (Blk.newAt (w.alloc (.cells #[.int .i64 ge, .slice A gp.length c] 32)) _ (by first | rfl | (simp; done) | (simp; omega))); replace h0 := h0.now hW; have hsW : w.heap.size + 2 = ((w.alloc (.cells #[.int .i64 ge, .slice A gp.length c] 32)).alloc (.cells #[.int .i64 0, .int .i64 0] 27)).heap.size := (by first | rfl | (simp; done) | (simp; omega)); generalize ((w.alloc (.cells #[.int .i64 ge, .slice A gp.length c] 32)).alloc (.cells #[.int .i64 0, .int .i64 0] 27)) = W at *; replace hsW := Lib.hid hsW
  have hBd : Below W.heap.size W W.drew := Below.drew (Below.refl _ W)
  obtain ⟨k0, k1⟩ := hb0.c2
  replace k0 := cell_keep k0 hBd
  replace k1 := cell_keep k1 hBd
  replace h0 := h0.now hBd
  refine wp_region_held_drew (S := fun w' => w'.cell? ⟨w.heap.size, 0, none⟩ = some (.int .i64 ge) ∧ w'.cell? ⟨w.heap.size, 1, none⟩ = some (.slice A gp.length c)) (by kernel_rfl) ⟨k0, k1⟩ (fun hH => ?_)
  refine wpAnyH_take (i := 0) (oi := { dst := _, op := _, type := _, pos := _, after := _, guard := _ }) (v := ?_) rfl (by kernel_rfl) (by kernel_rfl) (by kernel_rfl) (fun _ _ _ h => h) (Or.inl ⟨by rfl, ?_⟩) hH ?_
  rotate_left
  · intro w9 hSw
    try dsimp only at hSw
    obtain ⟨s0, s1⟩ := hSw
    go_simp
    try with_reducible rfl
  try simp only [Act.put, List.setIfInBounds_toArray, List.set_cons_zero, List.set_cons_succ]
  refine wpAnyH_take (i := 1) (oi := { dst := _, op := _, type := _, pos := _, after := _, guard := _ }) (v := ?_) rfl (by kernel_rfl) (by kernel_rfl) (by kernel_rfl) (fun _ _ _ h => h) (Or.inl ⟨by rfl, ?_⟩) hH ?_
  rotate_left
  · intro w9 hSw
    try dsimp only at hSw
    obtain ⟨s0, s1⟩ := hSw
    go_simp
    try with_reducible rfl
  try simp only [Act.put, List.setIfInBounds_toArray, List.set_cons_zero, List.set_cons_succ]
  refine wpAnyH_take (i := 2) (oi := { dst := _, op := _, type := _, pos := _, after := _, guard := _ }) (v := ?_) rfl (by kernel_rfl) (by kernel_rfl) (by kernel_rfl) (fun _ _ _ h => h) (Or.inl ⟨by rfl, ?_⟩) hH ?_
  rotate_left
  · intro w9 hSw
    try dsimp only at hSw
    obtain ⟨s0, s1⟩ := hSw
    go_simp
    try with_reducible rfl
  try simp only [Act.put, List.setIfInBounds_toArray, List.set_cons_zero, List.set_cons_succ]
  refine wpAnyH_take (i := 3) (oi := { dst := _, op := _, type := _, pos := _, after := _, guard := _ }) (v := ?_) rfl (by kernel_rfl) (by kernel_rfl) (by kernel_rfl) (fun _ _ _ h => h) (Or.inl ⟨by rfl, ?_⟩) hH ?_
  rotate_left
  · intro w9 hSw
    try dsimp only at hSw
    obtain ⟨s0, s1⟩ := hSw
    go_simp
    try with_reducible rfl
  try simp only [Act.put, List.setIfInBounds_toArray, List.set_cons_zero, List.set_cons_succ]
  refine wpAnyH_take (i := 4) (oi := { dst := _, op := _, type := _, pos := _, after := _, guard := _ }) (v := ?_) rfl (by kernel_rfl) (by kernel_rfl) (by kernel_rfl) (fun _ _ _ h => h) (Or.inl ⟨by rfl, ?_⟩) hH ?_
  rotate_left
  · intro w9 hSw
    try dsimp only at hSw
    obtain ⟨s0, s1⟩ := hSw
    go_simp
    try with_reducible rfl
  try simp only [Act.put, List.setIfInBounds_toArray, List.set_cons_zero, List.set_cons_succ]
  refine wpAnyH_ready (rs := [5]) (by kernel_rfl) (by simp) ?_
  refine AllReadyH.cons rfl (fun K hK => ?_) AllReadyH.nil
  go_simp
  go_at_call 113
  refine (spec_l01In ev 0 gm _).mono ?_
  rintro e5 w5 ⟨rfl, hq5⟩
  have hB5 : Below W.drew.heap.size W.drew w5 := by rw [← hq5]; exact Below.refl _ _
  have k0a := cell_keep (w := W.drew) k0 hB5
  have k1a := cell_keep (w := W.drew) k1 hB5
  clear hq5
  refine hK.out _ _ ⟨k0a, k1a⟩ (fun hH => ?_)
  clear hK K
  try simp only [Act.put, List.setIfInBounds_toArray, List.set_cons_zero, List.set_cons_succ]
  refine wpAnyH_ready (rs := [6]) (by kernel_rfl) (by simp) ?_
  refine AllReadyH.cons rfl (fun K hK => ?_) AllReadyH.nil
  go_simp
  go_at_call 112
  refine (spec_l13Code _ ge gp (inB ev 0 gm) w5 (h0.now hB5)).mono ?_
  rintro e6 w6 ⟨rfl, hB6b⟩
  rw [hT.out]
  have hB6 : Below W.drew.heap.size W.drew w6 := hB5.trans (hB6b.mono hB5.size)
  have k0b := cell_keep k0a hB6b
  have k1b := cell_keep k1a hB6b
  refine hK.out _ _ ⟨k0b, k1b⟩ (fun hH => ?_)
  clear hK K
  try simp only [Act.put, List.setIfInBounds_toArray, List.set_cons_zero, List.set_cons_succ]
  refine wpAnyH_take (i := 7) (oi := { dst := _, op := _, type := _, pos := _, after := _, guard := _ }) (v := ?_) rfl (by kernel_rfl) (by kernel_rfl) (by kernel_rfl) (fun _ _ _ h => h) (Or.inl ⟨by rfl, ?_⟩) hH ?_
  rotate_left
  · intro w9 hSw
    try dsimp only at hSw
    obtain ⟨s0, s1⟩ := hSw
    go_simp
    try with_reducible rfl
  try simp only [Act.put, List.setIfInBounds_toArray, List.set_cons_zero, List.set_cons_succ]
  refine wpAnyH_done (by kernel_rfl) ?_ _
  have hBt := hBd.trans (hB6.mono hBd.size)
  replace hb0 := hb0.now hBt
  replace hb1 := hb1.now hBt
  replace hW := hW.trans (hBt.mono hW.size)
  replace h0 := h0.now (hB5.trans (hB6b.mono hB5.size))
  clear hH k0 k1 k0a k1a k0b k1b hB5 hB6 hB6b hBd hBt
  obtain ⟨wa, rfl⟩ : ∃ wa : World, wa = w6 := ⟨_, rfl⟩
  obtain ⟨k0, k1⟩ := hb0.c2
  obtain ⟨r0, r1⟩ := hb1.c2
  obtain ⟨z0, z1⟩ := hb1.f2
  have lb := hb1.lt
  by_cases hc : timC ge gp (inB ev 0 (ge - 1)) = 0
  · obtain ⟨hg, hin, hlv⟩ := timC_zero hc
    have hge := okGraph_ev hg
    have hev := (inB_iff _ _ _).1 hin
    obtain ⟨n, rfl⟩ := Int.eq_ofNat_of_zero_le (show 0 ≤ ge by omega)
    obtain ⟨ev, rfl⟩ := Int.eq_ofNat_of_zero_le (show 0 ≤ ev by omega)
    have hgH := Lib.hid hg
    have hgl := okGraph_len hg
    have hE : Hid (evtF n gp ev = ctF n (upL n gp ev gp.length)) := evt_ok (by simp [evCode, hg, hin]) (by rw [Int.toNat_natCast] at hlv; obtain ⟨o, hlv⟩ := hlv; rw [hlv]; rfl)
    have hgq := Lib.hid (up_ok (ev := ev) hg)
    have hsol := Lib.hid (it_sol (tok_fin hg n) (by omega) (by omega) (by omega) (tok_it hg (by omega)))
    rw [hc]
    clear hg hc hin hlv r0 r1 z0 z1 lb hT hgm
    go_wp2_with fail
    clear k0 k1
    refine (spec_l12Tokens _ n gp _ h0 hgH.out).mono ?_
    rintro e w2 ⟨u2, rfl, hM, hB⟩
    replace hW := hW.trans (hB.mono hW.size); replace h0 := h0.now hB; replace hb0 := hb0.now hB; replace hb1 := hb1.now hB
    clear hB
    obtain ⟨A2, c2, rfl⟩ := hM.shape
    have hM2 := hM.lst
    clear hM
    go_wp2_with fail
    refine (spec_l05Reach _ n (tokF gp) _ hM2 (by omega) (by omega) hsol).mono ?_
    rintro e w3 ⟨x3, rs, rfl, hrl, hOR, hRT, hB⟩
    replace hW := hW.trans (hB.mono hW.size); replace h0 := h0.now hB; replace hb0 := hb0.now hB; replace hb1 := hb1.now hB
    clear hB hM2
    obtain ⟨RA, rc, rfl⟩ := own_shape_n hOR hrl
    obtain ⟨k0, k1⟩ := hb0.c2
    have l0 := hb0.lt
    have hA2 : Below w3.heap.size w3 ((w3.alloc (.cells #[] 65)).alloc (.cells #[.int .i64 (n : Int), .slice (some ⟨w3.heap.size, 0, none⟩) 0 0] 32)) := ((Below.refl _ _).alloc (Nat.le_refl _) _).alloc (by simp) _
    have hbu := Blk.newAt (w3.alloc (.cells #[] 65)) (t := 32) (cs := #[.int .i64 (n : Int), .slice (some ⟨w3.heap.size, 0, none⟩) 0 0]) (w3.heap.size + 1) (by simp)
    have hO0 := (own_new0 Place.cells 4 w3 65 w3.heap.size (Nat.le_refl _)).alloc (.cells #[.int .i64 (n : Int), .slice (some ⟨w3.heap.size, 0, none⟩) 0 0] 32)
    go_wp2
    clear k0 k1 l0
    go_loopw [9] (fun i wr => ∃ (k : Nat) (UA : Option Addr) (uc : Nat), k ≤ gp.length ∧ i = .int .i64 k ∧ Blk wr (w3.heap.size + 1) 32 #[.int .i64 (n : Int), .slice UA (upL n gp ev k).length uc] ∧ Own Place.cells 4 65 wr w3.heap.size (.slice UA (upL n gp ev k).length uc) (upL n gp ev k) ∧ Below w3.heap.size w3 wr) (fun i _ => gp.length - (intOf i).toNat)
    case atStart => exact ⟨0, _, 0, Nat.zero_le _, rfl, hbu, hO0, hA2⟩
    case round =>
      clear hbu hA2 hO0
      obtain ⟨k, UA, uc, hk, rfl, hbu, hO, hB⟩ := hrel
      obtain ⟨k0, k1⟩ := (hb0.now hB).c2
      have l0 := (hb0.now hB).lt
      by_cases hlt : k < gp.length
      · obtain ⟨b, off, hA1, _, d0, d1, d2, d3⟩ := places_at (h0.now hB) k hlt
        cases hA1
        have hp := okGraph_place hgH.out (List.getElem_mem hlt)
        obtain ⟨sr, hsr⟩ : ∃ sr, gp[k].src = sr := ⟨_, rfl⟩
        obtain ⟨d, hd⟩ := Int.eq_ofNat_of_zero_le hp.2.1.1
        obtain ⟨dl, hdl⟩ : ∃ dl, gp[k].delay = dl := ⟨_, rfl⟩
        obtain ⟨tk, htk⟩ : ∃ tk, gp[k].tokens = tk := ⟨_, rfl⟩
        have hdn : d < n := by omega
        have hpk : Hid (gp[k] = ⟨sr, d, dl, tk⟩) := by show _ = _; rw [← hsr, ← hd, ← hdl, ← htk]
        rw [hsr] at d0
        rw [hd] at d1
        rw [hdl] at d2
        rw [htk] at d3
        clear hsr hd hdl htk hp
        have hevn : ev < n := by omega
        obtain ⟨rb, rcc, hRA, y1⟩ := refB_at (hOR.now hB) d (by omega)
        rw [hrl] at hRA
        cases hRA
        obtain ⟨R, hRo, hRi⟩ := (hRT.out.now hB) d (by omega)
        obtain ⟨RB, rbc, hRv⟩ := own_shape_n hRo (by simp : _ = n)
        rw [hRv] at y1 hRo
        obtain ⟨rb2, ro2, hRB, _, y2⟩ := bools_at hRo.lst ev (by simpa using hevn)
        cases hRB
        rw [List.getElem_map, List.getElem_range] at y2
        have hri := hRi ev hevn
        obtain ⟨rv, hrv⟩ : ∃ rv, R ev = rv := ⟨_, rfl⟩
        rw [hrv] at y2 hri
        have i1 : (0 : Int) ≤ (ev : Int) := by omega
        have i2 : (ev : Int) < (n : Int) := by omega
        have i3 : (0 : Int) ≤ (d : Int) := by omega
        have i4 : (d : Int) < (n : Int) := by omega
        have i5 : (0 : Int) ≤ (k : Int) := by omega
        have i6 : (k : Int) < (gp.length : Int) := by omega
        clear hRv hrv hRo hRi
        cases rv
        · have hnx := Lib.hid (upL_miss hlt hpk.out (decide_eq_false (show ¬ itF n (tokF gp) n ev (d : Int).toNat ≠ bot by rw [Int.toNat_natCast]; exact fun h => by have h9 := hri.2 h; cases h9)))
          clear hri
          go_wp2
          go_roundw
          case rel => exact ⟨k + 1, UA, uc, hlt, by go_num, by rw [hnx.out]; exact hbu, by rw [hnx.out]; exact hO, hB⟩
          case measure => simp [intOf]; omega
        · have hnx := Lib.hid (upL_hit hlt hpk.out (decide_eq_true (show itF n (tokF gp) n ev (d : Int).toNat ≠ bot by rw [Int.toNat_natCast]; exact hri.1 rfl)))
          have hll := upL_len n gp ev k
          clear hri
          obtain ⟨L, hL⟩ : ∃ L, upL n gp ev k = L := ⟨_, rfl⟩
          rw [hL] at hO hbu hll
          replace hnx : Hid (upL n gp ev (k + 1) = L ++ [⟨sr, d, dl, tk⟩]) := by rw [← hL]; exact hnx
          clear hL
          obtain ⟨u0, u1⟩ := hbu.c2
          have hlen : L.length + [(⟨sr, d, dl, tk⟩ : Place)].length ≤ 1099511627776 := by simp; omega
          have hLL : Hid ((L ++ [(⟨sr, d, dl, tk⟩ : Place)]).length = L.length + 1) := by show _ = _; simp
          have hBd : Below wr.heap.size wr wr.drew := Below.drew (Below.refl _ wr)
          have hs3 := hB.size
          go_wp2_with fail
          clear y1 y2
          replace u1 := cell_keep u1 hBd
          replace k1 := cell_keep k1 hBd
          replace d0 := cell_keep d0 hBd
          replace d1 := cell_keep d1 hBd
          replace d2 := cell_keep d2 hBd
          replace d3 := cell_keep d3 hBd
          have hZ : Below wr.drew.heap.size wr.drew (wr.drew.alloc (.cells #[.int .i64 sr, .int .i64 (d : Int), .int .i64 dl, .int .i64 tk] 65)) := (Below.refl _ _).alloc (Nat.le_refl _) _
          have hOz := (hO.now hBd).now hZ
          have hbz := Lib.hid ((hbu.now hBd).now hZ)
          have hBz := Lib.hid ((hB.trans (hBd.mono hB.size)).trans (hZ.mono hB.size))
          have hsz : w3.heap.size ≤ (wr.drew.alloc (.cells #[.int .i64 sr, .int .i64 (d : Int), .int .i64 dl, .int .i64 tk] 65)).heap.size := hBz.out.size
          have hgz := Lib.hid ((h0.now hB).now hBd)
          refine wp_region_E (fun w' => w'.cell? ⟨w3.heap.size + 1, 1, none⟩ = some (.slice UA L.length uc) ∧ w'.cell? ⟨w.heap.size, 1, none⟩ = some (.slice (some ⟨b, off, none⟩) gp.length c) ∧ w'.cell? ⟨b, off + k * 4, none⟩ = some (.int .i64 sr) ∧ w'.cell? ⟨b, off + k * 4 + 1, none⟩ = some (.int .i64 (d : Nat)) ∧ w'.cell? ⟨b, off + k * 4 + 2, none⟩ = some (.int .i64 dl) ∧ w'.cell? ⟨b, off + k * 4 + 3, none⟩ = some (.int .i64 tk)) 10 (by kernel_rfl) ?_
          have hS0 : (fun w' : World => w'.cell? ⟨w3.heap.size + 1, 1, none⟩ = some (.slice UA L.length uc) ∧ w'.cell? ⟨w.heap.size, 1, none⟩ = some (.slice (some ⟨b, off, none⟩) gp.length c) ∧ w'.cell? ⟨b, off + k * 4, none⟩ = some (.int .i64 sr) ∧ w'.cell? ⟨b, off + k * 4 + 1, none⟩ = some (.int .i64 (d : Nat)) ∧ w'.cell? ⟨b, off + k * 4 + 2, none⟩ = some (.int .i64 dl) ∧ w'.cell? ⟨b, off + k * 4 + 3, none⟩ = some (.int .i64 tk)) wr.drew := ⟨u1, k1, d0, d1, d2, d3⟩
          refine wpAnyE_take (i := 0) (v := ?_) rfl (by kernel_rfl) (by kernel_rfl) (by kernel_rfl) (by kernel_rfl) (by kernel_rfl) (fun _ _ _ h => h) hS0 (by rfl) ?_ ?_
          rotate_left
          · intro w9 hSw
            try dsimp only at hSw
            obtain ⟨s0, s1, s2, s3, s4, s5⟩ := hSw
            go_simp
            try with_reducible rfl
          try simp only [Act.put, List.setIfInBounds_toArray, List.set_cons_zero, List.set_cons_succ]
          refine wpAnyE_take (i := 1) (v := ?_) rfl (by kernel_rfl) (by kernel_rfl) (by kernel_rfl) (by kernel_rfl) (by kernel_rfl) (fun _ _ _ h => h) hS0 (by rfl) ?_ ?_
          rotate_left
          · intro w9 hSw
            try dsimp only at hSw
            obtain ⟨s0, s1, s2, s3, s4, s5⟩ := hSw
            go_simp
            try with_reducible rfl
          try simp only [Act.put, List.setIfInBounds_toArray, List.set_cons_zero, List.set_cons_succ]
          refine wpAnyE_take (i := 2) (v := ?_) rfl (by kernel_rfl) (by kernel_rfl) (by kernel_rfl) (by kernel_rfl) (by kernel_rfl) (fun _ _ _ h => h) hS0 (by rfl) ?_ ?_
          rotate_left
          · intro w9 hSw
            try dsimp only at hSw
            obtain ⟨s0, s1, s2, s3, s4, s5⟩ := hSw
            go_simp
            try with_reducible rfl
          try simp only [Act.put, List.setIfInBounds_toArray, List.set_cons_zero, List.set_cons_succ]
          refine wpAnyE_take (i := 3) (v := ?_) rfl (by kernel_rfl) (by kernel_rfl) (by kernel_rfl) (by kernel_rfl) (by kernel_rfl) (fun _ _ _ h => h) hS0 (by rfl) ?_ ?_
          rotate_left
          · intro w9 hSw
            try dsimp only at hSw
            obtain ⟨s0, s1, s2, s3, s4, s5⟩ := hSw
            go_simp
            try with_reducible rfl
          try simp only [Act.put, List.setIfInBounds_toArray, List.set_cons_zero, List.set_cons_succ]
          refine wpAnyE_take (i := 4) (v := ?_) rfl (by kernel_rfl) (by kernel_rfl) (by kernel_rfl) (by kernel_rfl) (by kernel_rfl) (fun _ _ _ h => h) hS0 (by rfl) ?_ ?_
          rotate_left
          · intro w9 hSw
            try dsimp only at hSw
            obtain ⟨s0, s1, s2, s3, s4, s5⟩ := hSw
            go_simp
            try with_reducible rfl
          try simp only [Act.put, List.setIfInBounds_toArray, List.set_cons_zero, List.set_cons_succ]
          refine wpAnyE_take (i := 5) (v := ?_) rfl (by kernel_rfl) (by kernel_rfl) (by kernel_rfl) (by kernel_rfl) (by kernel_rfl) (fun _ _ _ h => h) hS0 (by rfl) ?_ ?_
          rotate_left
          · intro w9 hSw
            try dsimp only at hSw
            obtain ⟨s0, s1, s2, s3, s4, s5⟩ := hSw
            go_simp
            try with_reducible rfl
          try simp only [Act.put, List.setIfInBounds_toArray, List.set_cons_zero, List.set_cons_succ]
          refine wpAnyE_take (i := 6) (v := ?_) rfl (by kernel_rfl) (by kernel_rfl) (by kernel_rfl) (by kernel_rfl) (by kernel_rfl) (fun _ _ _ h => h) hS0 (by rfl) ?_ ?_
          rotate_left
          · intro w9 hSw
            try dsimp only at hSw
            obtain ⟨s0, s1, s2, s3, s4, s5⟩ := hSw
            go_simp
            try with_reducible rfl
          try simp only [Act.put, List.setIfInBounds_toArray, List.set_cons_zero, List.set_cons_succ]
          refine wpAnyE_one (i := 7) rfl (by kernel_rfl) (fun K hK => ?_)
          have u1z := cell_keep (w := wr.drew) u1 hZ
          have k1z := cell_keep (w := wr.drew) k1 hZ
          have d0z := cell_keep (w := wr.drew) d0 hZ
          have d1z := cell_keep (w := wr.drew) d1 hZ
          have d2z := cell_keep (w := wr.drew) d2 hZ
          have d3z := cell_keep (w := wr.drew) d3 hZ
          go_simp
          refine hK.out _ _ (fun _ => ⟨u1z, k1z, d0z, d1z, d2z, d3z⟩) ?_
          clear hK K
          try simp only [Act.put, List.setIfInBounds_toArray, List.set_cons_zero, List.set_cons_succ]
          have hLst := lst_new1 Place.cells 4 Place.cells_len wr.drew 65 (⟨sr, d, dl, tk⟩ : Place) _ rfl _ rfl
          refine wpAnyE_one (i := 8) rfl (by kernel_rfl) (fun K hK => ?_)
          refine step_append_lst rfl _ _ 30 rfl Place.cells 4 Place.cells_one (by omega) w3.heap.size 65 _ 32 Try.underlying30 info_place rfl (.slice UA L.length uc) L rfl hOz _ _ _ _ [(⟨sr, d, dl, tk⟩ : Place)] rfl hLst hlen (by omega) hsz ?_
          intro v1 w9 hO1 hG1 hD1
          obtain ⟨V1, cv1, rfl⟩ := own_shape_n hO1 hLL.out
          have hbu9 := hbz.out.grown hG1 (fun e => hOz.ne_blk hbz.out (by decide) e.symm)
          have lu9 := hbu9.lt
          have fu9 := hbu9.frozen 1
          obtain ⟨u09, u1y⟩ := hbu9.c2
          have hB9 := hBz.out.grown hG1 hBz.out.size (fun q e => (hOz.lt q e).1)
          have hb09 := (hb0.now hB9)
          obtain ⟨_, k1y⟩ := hb09.c2
          obtain ⟨_, _, hA9, _, d0y, d1y, d2y, d3y⟩ := places_at (h0.now hB9) k hlt
          cases hA9
          rw [hpk.out] at d0y d1y d2y d3y
          simp only at d0y d1y d2y d3y
          have hO9 := own_far hO1 (p := ⟨w3.heap.size + 1, 1, none⟩) (hO1.ne_blk hbu9 (by decide)) (.slice V1 (L.length + 1) cv1)
          have hbx9 := hbu9.set2b (u := .slice V1 (L.length + 1) cv1)
          have hBx := hB9.setCell (p := ⟨w3.heap.size + 1, 1, none⟩) (Nat.le_succ _) (.slice V1 (L.length + 1) cv1)
          refine hK.out _ _ (fun _ => ⟨u1y, k1y, d0y, d1y, d2y, d3y⟩) ?_
          clear hK K
          try simp only [Act.put, List.setIfInBounds_toArray, List.set_cons_zero, List.set_cons_succ]
          refine wpAnyE_one (i := 9) rfl (by kernel_rfl) (fun K hK => ?_)
          go_simp
          refine hK.out _ _ (fun _ => ⟨u1y, k1y, d0y, d1y, d2y, d3y⟩) ?_
          clear hK K
          try simp only [Act.put, List.setIfInBounds_toArray, List.set_cons_zero, List.set_cons_succ]
          refine wpAnyE_one (i := 10) rfl (by kernel_rfl) (fun K hK => ?_)
          go_simp
          refine hK.out _ _ (fun h => absurd rfl h) ?_
          clear hK K
          try simp only [Act.put, List.setIfInBounds_toArray, List.set_cons_zero, List.set_cons_succ]
          refine wpAnyE_done (by kernel_rfl) ?_
          clear hS0 u1 k1 d0 d1 d2 d3
          go_wp2
          go_roundw
          case rel => exact ⟨k + 1, V1, cv1, hlt, by go_num, by rw [hnx.out, hLL.out]; exact hbx9, by rw [hnx.out, hLL.out]; exact hO9, hBx⟩
          case measure => simp [intOf]; omega
      · obtain rfl : k = gp.length := by omega
        obtain ⟨u0, u1⟩ := hbu.c2
        generalize upL n gp ev gp.length = gq at *
        clear hlt
        go_wp2_with fail
        clear k0 k1 l0 u0 u1
        refine (spec_CycleTime _ n gq _ hO.lst).mono ?_
        rintro e w5 ⟨rfl, hB5⟩
        replace hb1 := (hb1.now hB).now hB5
        obtain ⟨a, bq, cd, hctF⟩ : ∃ a b cd, ctF n gq = (a, b, cd) := ⟨_, _, _, rfl⟩
        rw [hctF]
        have hE2 := Lib.hid (hE.out.trans hctF)
        clear hctF
        obtain ⟨x0, x1⟩ := hb1.c2
        obtain ⟨z0, z1⟩ := hb1.f2
        have lb := hb1.lt
        have hWr := hW.trans ((hB.trans (hB5.mono hB.size)).mono hW.size)
        clear hB hB5 hO hbu
        go_wp2
        refine bodyPost_ret (v := .tuple #[.agg #[.int .i64 a, .int .i64 bq], .int .i64 cd]) (by simp [results, Try.results26, go_sem, x0, x1]) rfl (retR_of hE2.out rfl ?_)
        first | exact hWr | exact ((hWr.setCell (by simp <;> omega) _).setCell (by simp <;> omega) _)
  · have hE := Lib.hid (timC_ev hc)
    obtain ⟨cd, hcd⟩ : ∃ cd, timC ge gp (inB ev 0 (ge - 1)) = cd := ⟨_, rfl⟩
    rw [hcd] at hE hc ⊢
    have q1 : (cd != 0) = true := by simpa using hc
    clear hcd hc hT hgm
    go_wp2
    refine bodyPost_ret (v := .tuple #[.agg #[.int .i64 0, .int .i64 0], .int .i64 cd]) (by simp [results, Try.results26, go_sem, r0, r1]) rfl (retR_of hE.out rfl ?_)
    first | exact hW | exact ((hW.setCell (by simp <;> omega) _).setCell (by simp <;> omega) _)
end Go.Proofs.Ytpkkkigiiaegfaa
