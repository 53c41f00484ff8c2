/-
  The walks of RoomTimes, the program's and the reference's.
-/
import Derived.Test.YtkbhbmoogkjafaaCirI
import Derived.Test.YtkbhbmoogkjafaaCirS
import Derived.Test.YtkbhbmoogkjafaaSuf
namespace Go.Proofs.Ytkbhbmoogkjafaa
open Go.RowKit
set_option linter.unusedVariables false
set_option linter.unusedSimpArgs false
/-- The cycle time of the graph limited at one place, and 0/1 where there is none. -/
noncomputable def roomR (ge : Int) (gp : List Place) (i r : Int) : Ratio :=
  if (ctF ge (gp ++ backs gp [i] [r] 1)).2.2 = 0 then ⟨(ctF ge (gp ++ backs gp [i] [r] 1)).1, (ctF ge (gp ++ backs gp [i] [r] 1)).2.1⟩ else ⟨0, 1⟩
noncomputable def roomL (ge : Int) (gp : List Place) (i lo : Int) (k : Nat) : List Ratio := (List.range k).map fun (t : Nat) => roomR ge gp i (lo + t)
theorem roomL_len (ge : Int) (gp : List Place) (i lo : Int) (k : Nat) : (roomL ge gp i lo k).length = k := by simp [roomL]
theorem roomL_succ (ge : Int) (gp : List Place) (i lo : Int) (k : Nat) : roomL ge gp i lo (k + 1) = roomL ge gp i lo k ++ [roomR ge gp i (lo + k)] := by simp [roomL, List.range_succ]
/-- What RoomTimes gives. -/
noncomputable def roomTF (ge : Int) (gp : List Place) (i : Int) : List Ratio × Int :=
  if idxCode ge gp i = 0 then (if gp.length = 30 then ([], 3) else (roomL ge gp i (max 1 (plAt gp i).tokens) (min 8 ((plAt gp i).tokens + 5) + 1 - max 1 (plAt gp i).tokens).toNat, 0)) else ([], idxCode ge gp i)
theorem bufOk_oneT (n : Nat) (i : Int) : bufOk n [i] = inB i 0 ((n : Int) - 1) := by
  simp [bufOk, bufUp, inB, hasI]
theorem roomsOk_one (gp : List Place) (i r : Int) : roomsOk gp [i] [r] = inB r (max 1 (plAt gp i).tokens) (min 8 ((plAt gp i).tokens + 5)) := by
  simp [roomsOk, roomsUp]
theorem roomTF_len (ge : Int) (gp : List Place) (i : Int) : (roomTF ge gp i).1.length ≤ 1048576 := by
  unfold roomTF
  split
  · split
    · simp
    · rw [roomL_len]; omega
  · simp
theorem idx_tok {ge : Int} {gp : List Place} {i : Int} (h : idxCode ge gp i = 0) : okGraph ge gp = true ∧ 0 ≤ (plAt gp i).tokens ∧ (plAt gp i).tokens ≤ 5 := by
  obtain ⟨hg, h0, h1⟩ := idxCode_zero h
  obtain ⟨q, rfl⟩ := Int.eq_ofNat_of_zero_le h0
  rw [plAt_nat gp q (by omega)]
  exact ⟨hg, (okGraph_place hg (List.getElem_mem _)).2.2.2⟩
set_option maxHeartbeats 8000000 in
set_option maxRecDepth 100000 in
theorem impl_RoomTimes (v : Value) (ge : Int) (gp : List Place) (i : Int) (w : World) (h0 : Lst Place.cells 4 w w.heap.size v gp) :
    Calls Try.prog 64 #[.agg #[.int .i64 ge, v], .int .i64 i] w (RetOwnI Ratio.cells 2 63 w (roomTF ge gp i).1 (roomTF ge gp i).2) := by
  obtain ⟨A, c, rfl⟩ := h0.shape
  have hl := h0.len_le
  go_enter Try.func64, Try.ntmps64
  go_wp2_with fail
  have hW : Below w.heap.size w (w.alloc (.cells #[.int .i64 ge, .slice A gp.length c] 26)) := (Below.refl _ _).alloc (Nat.le_refl _) _; have hb0 : Blk (w.alloc (.cells #[.int .i64 ge, .slice A gp.length c] 26)) w.heap.size 26 #[.int .i64 ge, .slice A gp.length c] := Blk.new _ _ _; replace h0 := h0.now hW; generalize (w.alloc (.cells #[.int .i64 ge, .slice A gp.length c] 26)) = W at *
  refine (impl_IsEventGraph _ ge gp _ h0).mono ?_
  rintro e w1 ⟨rfl, hB⟩
  replace hW := hW.trans (hB.mono hW.size); replace h0 := h0.now hB; replace hb0 := hb0.now hB
  clear hB
  obtain ⟨k0, k1⟩ := hb0.c2
  have l0 := hb0.lt
  cases hg : okGraph ge gp
  · have hE : Hid (roomTF ge gp i = ([], 1)) := by show _ = _; simp [roomTF, idxCode, hg]
    clear hg
    go_wp2
    go_ret2
    exact RetOwnI.of hE.out ⟨_, rfl, Own.nil, hW⟩
  · have hgH := Lib.hid hg
    go_wp2_with fail
    clear k0 k1 l0
    have hZ : Below w1.heap.size w1 (w1.alloc (.cells #[.int .i64 i] 2)) := (Below.refl _ _).alloc (Nat.le_refl _) _
    have a1 := (lst_new1 intCell 1 intCell_len w1 2 i #[.int .i64 i] rfl w1.heap.size rfl).more (show w1.heap.size + 1 ≤ (w1.alloc (.cells #[.int .i64 i] 2)).heap.size by simp)
    replace hW := hW.trans (hZ.mono hW.size); replace h0 := h0.now hZ; replace hb0 := hb0.now hZ
    clear hZ
    refine (impl_areBuffers _ ge gp _ [i] _ h0 a1).mono ?_
    rintro e w2 ⟨rfl, hB⟩
    replace hW := hW.trans (hB.mono hW.size); replace h0 := h0.now hB; replace hb0 := hb0.now hB
    clear hB a1
    rw [bufOk_oneT]
    obtain ⟨k0, k1⟩ := hb0.c2
    have l0 := hb0.lt
    cases hi : inB i 0 ((gp.length : Int) - 1)
    · have hE : Hid (roomTF ge gp i = ([], 2)) := by show _ = _; simp [roomTF, idxCode, hg, hi]
      clear hg hi
      go_wp2
      go_ret2
      exact RetOwnI.of hE.out ⟨_, rfl, Own.nil, hW⟩
    · have hc : idxCode ge gp i = 0 := by simp [idxCode, hg, hi]
      obtain ⟨-, ht0, ht1⟩ := idx_tok hc
      have hgl := okGraph_len hg
      by_cases h30 : gp.length = 30
      · have hE : Hid (roomTF ge gp i = ([], 3)) := by show _ = _; simp [roomTF, hc, h30]
        have q30 : ((gp.length : Int) == 30) = true := by rw [beq_iff_eq]; omega
        clear hg hi hc h30
        go_wp2
        go_ret2
        exact RetOwnI.of hE.out ⟨_, rfl, Own.nil, hW⟩
      · have q30 : ((gp.length : Int) == 30) = false := by rw [beq_eq_false_iff_ne]; omega
        obtain ⟨lo, hlo⟩ : ∃ lo, max 1 (plAt gp i).tokens = lo := ⟨_, rfl⟩
        obtain ⟨hi', hhi⟩ : ∃ hi', min 8 ((plAt gp i).tokens + 5) = hi' := ⟨_, rfl⟩
        have hE : Hid (roomTF ge gp i = (roomL ge gp i lo (hi' + 1 - lo).toNat, 0)) := by show _ = _; unfold roomTF; rw [if_pos hc, if_neg h30, hlo, hhi]
        have hro : Hid (∀ r, lo ≤ r → r ≤ hi' → roomsOk gp [i] [r] = true) := fun r h1 h2 => by rw [roomsOk_one, hlo, hhi, inB_iff]; exact ⟨h1, h2⟩
        have hbu : Hid (bufOk gp.length [i] = true) := by show _ = _; rw [bufOk_oneT]; exact hi
        have hiB := (inB_iff _ _ _).1 hi
        obtain ⟨q, rfl⟩ := Int.eq_ofNat_of_zero_le hiB.1
        have hq : q < gp.length := by omega
        have hpq := plAt_nat gp q hq
        rw [hpq] at hlo hhi ht0 ht1
        have hge := okGraph_ev hg
        obtain ⟨n, rfl⟩ := Int.eq_ofNat_of_zero_le (show 0 ≤ ge by omega)
        have hl30 : gp.length + 1 ≤ 30 := by omega
        obtain ⟨b, off, hA, hb, d0, d1, d2, d3⟩ := places_at h0 q hq
        cases hA
        obtain ⟨⟨sr, dr, dl, tk⟩, hpe⟩ : ∃ p, gp[q] = p := ⟨_, rfl⟩
        rw [hpe] at d0 d1 d2 d3 hlo hhi ht0 ht1
        simp only at d0 d1 d2 d3 hlo hhi ht0 ht1
        have i1 : (0 : Int) ≤ (q : Int) := by omega
        have i2 : (q : Int) < (gp.length : Int) := by omega
        have hlo1 : 1 ≤ lo ∧ lo ≤ hi' ∧ hi' ≤ 8 := by omega
        clear hg hi hc h30 hpq hpe hiB
        go_wp2_with fail
        refine (impl_roomsOf sr dr dl tk _ ht0 ht1).mono ?_
        rintro e w3 ⟨rfl, hB⟩
        rw [hlo, hhi]
        replace hW := hW.trans (hB.mono hW.size); replace h0 := h0.now hB; replace hb0 := hb0.now hB
        clear hB k0 k1 l0 d0 d1 d2 d3 hlo hhi ht0 ht1 i1 i2
        go_wp2
        go_loopw [8, 9, 10, 11] (fun tv rv _ _ wr => ∃ (k : Nat) (L : List Ratio), rv = .int .i64 (lo + k) ∧ lo + (k : Int) ≤ hi' + 1 ∧ Hid (L = roomL n gp q lo k) ∧ Own Ratio.cells 2 63 wr w3.heap.size tv L ∧ Below w3.heap.size w3 wr) (fun _ rv _ _ _ => (hi' + 1 - intOf rv).toNat)
        case atStart => exact ⟨0, [], by simp, by omega, rfl, Own.nil, Below.refl _ _⟩
        case round =>
          obtain ⟨k, L, rfl, hk, hL, hO, hBr⟩ := hrel
          obtain ⟨TA, tc, rfl⟩ := hO.shape
          have hLl : Hid (L.length = k) := by show _ = _; rw [hL.out, roomL_len]
          have hs := hBr.size
          obtain ⟨k0, k1⟩ := (hb0.now hBr).c2
          have l0 := (hb0.now hBr).lt
          by_cases hlt : lo + (k : Int) ≤ hi'
          · skip
            have wk : IntKind.i64.wrap (lo + (k : Int) + 1) = lo + (k : Int) + 1 := IntWalk.i64_in _ (by omega)
            have hroom := hro.out (lo + (k : Int)) (by omega) hlt
            have hroomH := Lib.hid hroom
            have hlimq := Lib.hid (lim_ok hgH.out hbu.out hroom (by simpa using hl30))
            clear hroom
            go_wp2_with fail
            clear k0 k1 l0
            have hZ1 : Below wr.heap.size wr (wr.alloc (.cells #[.int .i64 (q : Nat)] 2)) := (Below.refl _ _).alloc (Nat.le_refl _) _
            have hZ : Below wr.heap.size wr ((wr.alloc (.cells #[.int .i64 (q : Nat)] 2)).alloc (.cells #[.int .i64 (lo + (k : Int))] 2)) := hZ1.alloc hZ1.size _
            have a1 := ((lst_new1 intCell 1 intCell_len wr 2 (q : Int) #[.int .i64 (q : Nat)] rfl wr.heap.size rfl).more (show wr.heap.size + 1 ≤ (wr.alloc (.cells #[.int .i64 (q : Nat)] 2)).heap.size by simp)).alloc (.cells #[.int .i64 (lo + (k : Int))] 2)
            have a2 := (lst_new1 intCell 1 intCell_len (wr.alloc (.cells #[.int .i64 (q : Nat)] 2)) 2 (lo + (k : Int)) #[.int .i64 (lo + (k : Int))] rfl (wr.heap.size + 1) (by simp)).more (show wr.heap.size + 1 + 1 ≤ ((wr.alloc (.cells #[.int .i64 (q : Nat)] 2)).alloc (.cells #[.int .i64 (lo + (k : Int))] 2)).heap.size by simp)
            have hOz := hO.now hZ
            have hBz := hBr.trans (hZ.mono hs)
            refine (impl_limited _ (n : Int) gp _ [(q : Int)] _ [lo + (k : Int)] _ (h0.now hBz) a1 a2 hgH hbu hroomH).mono ?_
            rintro e wa ⟨x, rfl, hG, hB2⟩
            replace hOz := hOz.now hB2
            replace hBz := hBz.trans (hB2.mono hBz.size)
            clear a1 a2 hZ hZ1 hO hB2
            obtain ⟨G, hGd⟩ : ∃ G, gp ++ backs gp [(q : Int)] [lo + (k : Int)] [(q : Int)].length = G := ⟨_, rfl⟩
            rw [hGd] at hG hlimq
            obtain ⟨GA, gc, rfl⟩ := hG.shape
            go_wp2_with fail
            refine (impl_cycleTime _ n G _ hG.lst hlimq).mono ?_
            rintro e wb ⟨rfl, hB2⟩
            replace hOz := hOz.now hB2
            replace hBz := hBz.trans (hB2.mono hBz.size)
            clear hB2 hG
            obtain ⟨ca, cb, cc9, hcd⟩ : ∃ ca cb cc9, ctF n G = (ca, cb, cc9) := ⟨_, _, _, rfl⟩
            rw [hcd]
            have hLs := roomL_succ n gp q lo k
            have hrr : roomR n gp q (lo + (k : Int)) = if cc9 = 0 then ⟨ca, cb⟩ else ⟨0, 1⟩ := by unfold roomR; rw [show gp ++ backs gp [(q : Int)] [lo + (k : Int)] 1 = G from hGd, hcd]
            clear hcd hGd hlimq
            have hs2 := hBz.size
            by_cases hc9 : cc9 = 0
            · have q9 : (cc9 != 0) = false := by simp [hc9]
              rw [if_pos hc9] at hrr
              have hLn : Hid (L ++ [⟨ca, cb⟩] = roomL n gp q lo (k + 1)) := by show _ = _; rw [hLs, hL.out, hrr]
              have hbx := Blk.newAt wb (t := 63) (cs := #[.int .i64 ca, .int .i64 cb]) _ rfl
              have hA9 : Below wb.heap.size wb (wb.alloc (.cells #[.int .i64 ca, .int .i64 cb] 63)) := (Below.refl _ _).alloc (Nat.le_refl _) _
              obtain ⟨x0, x1⟩ := hbx.c2
              have hO9 := Lib.hid ((hOz.now hA9).alloc (.cells #[.int .i64 ca, .int .i64 cb] 63))
              have hB9 := Lib.hid ((hBz.trans (hA9.mono hBz.size)).alloc (Nat.le_trans hBz.size hA9.size) (.cells #[.int .i64 ca, .int .i64 cb] 63))
              have hsz : Hid (w3.heap.size ≤ ((wb.alloc (.cells #[.int .i64 ca, .int .i64 cb] 63)).alloc (.cells #[.int .i64 ca, .int .i64 cb] 63)).heap.size) := hB9.out.size
              have hlenA : L.length + [(⟨ca, cb⟩ : Ratio)].length ≤ 1099511627776 := by have := hLl.out; simp; omega
              clear hOz hBz hrr hLs
              go_wp2_with (at_builtin; refine wpList_append_lst rfl _ _ 78 rfl Ratio.cells 2 Ratio.cells_one (by omega) w3.heap.size 63 _ 16 Try.underlying78 info_impl_ratio rfl _ _ rfl hO9.out _ _ _ _ [⟨ca, cb⟩] rfl (lst_new1 Ratio.cells 2 Ratio.cells_len _ _ _ _ rfl _ (by simp)) hlenA (by omega) hsz.out ?_; intro v' w9 hO1 hG1 hD1)
              go_roundw
              case rel => exact ⟨k + 1, _, by go_num, by omega, hLn, hO1, hB9.out.grown hG1 hB9.out.size (fun g hg => (hO9.out.lt g hg).1)⟩
              case measure => simp [intOf]; omega
            · have q9 : (cc9 != 0) = true := by simpa using hc9
              rw [if_neg hc9] at hrr
              have hLn : Hid (L ++ [⟨0, 1⟩] = roomL n gp q lo (k + 1)) := by show _ = _; rw [hLs, hL.out, hrr]
              have hbx := Blk.newAt wb (t := 63) (cs := #[.int .i64 ca, .int .i64 cb]) _ rfl
              have hA9 : Below wb.heap.size wb (wb.alloc (.cells #[.int .i64 ca, .int .i64 cb] 63)) := (Below.refl _ _).alloc (Nat.le_refl _) _
              have hf := hbx.frozen
              have hf0 := hf 0
              have hf1 := hf 1
              have hlx := hbx.lt
              replace hA9 : Below wb.heap.size wb (wb.alloc (.cells #[.int .i64 0, .int .i64 1] 63)) := (Below.refl _ _).alloc (Nat.le_refl _) _
              have hbx2 := Blk.newAt wb (t := 63) (cs := #[.int .i64 0, .int .i64 1]) _ rfl
              obtain ⟨c0, c1⟩ := hbx.c2
              obtain ⟨x0, x1⟩ := hbx2.c2
              have hO9 := Lib.hid ((hOz.now hA9).alloc (.cells #[.int .i64 0, .int .i64 1] 63))
              have hB9 := Lib.hid ((hBz.trans (hA9.mono hBz.size)).alloc (Nat.le_trans hBz.size hA9.size) (.cells #[.int .i64 0, .int .i64 1] 63))
              have hsz : Hid (w3.heap.size ≤ ((wb.alloc (.cells #[.int .i64 0, .int .i64 1] 63)).alloc (.cells #[.int .i64 (0), .int .i64 1] 63)).heap.size) := hB9.out.size
              have hlenA : L.length + [(⟨0, 1⟩ : Ratio)].length ≤ 1099511627776 := by have := hLl.out; simp; omega
              clear hOz hBz hrr hLs
              go_wp2_with (at_builtin; refine wpList_append_lst rfl _ _ 78 rfl Ratio.cells 2 Ratio.cells_one (by omega) w3.heap.size 63 _ 16 Try.underlying78 info_impl_ratio rfl _ _ rfl hO9.out _ _ _ _ [⟨0, 1⟩] rfl (lst_new1 Ratio.cells 2 Ratio.cells_len _ _ _ _ rfl _ (by simp)) hlenA (by omega) hsz.out ?_; intro v' w9 hO1 hG1 hD1)
              go_roundw
              case rel => exact ⟨k + 1, _, by go_num, by omega, hLn, hO1, hB9.out.grown hG1 hB9.out.size (fun g hg => (hO9.out.lt g hg).1)⟩
              case measure => simp [intOf]; omega
          · have hkk : (hi' + 1 - lo).toNat = k := by omega
            have hnl : hi' < lo + (k : Int) := by omega
            go_wp2
            go_ret2
            exact RetOwnI.of hE.out ⟨_, rfl, by rw [hkk, ← hL.out]; exact hO.rebase hW.size, hW.trans (hBr.mono hW.size)⟩
set_option maxHeartbeats 8000000 in
set_option maxRecDepth 100000 in
theorem spec_RoomTimes (v : Value) (ge : Int) (gp : List Place) (i : Int) (w : World) (h0 : Lst Place.cells 4 w w.heap.size v gp) :
    Calls Try.prog 63 #[.agg #[.int .i64 ge, v], .int .i64 i] w (RetOwnI Ratio.cells 2 63 w (roomTF ge gp i).1 (roomTF ge gp i).2) := by
  obtain ⟨A, c, rfl⟩ := h0.shape
  have hl := h0.len_le
  go_enter Try.func63, Try.ntmps63
  go_wp2_with fail
  have hW : Below w.heap.size w (w.alloc (.cells #[.int .i64 ge, .slice A gp.length c] 26)) := (Below.refl _ _).alloc (Nat.le_refl _) _; have hb0 : Blk (w.alloc (.cells #[.int .i64 ge, .slice A gp.length c] 26)) w.heap.size 26 #[.int .i64 ge, .slice A gp.length c] := Blk.new _ _ _; replace h0 := h0.now hW; generalize (w.alloc (.cells #[.int .i64 ge, .slice A gp.length c] 26)) = W at *
  refine (spec_RoomsOf _ ge gp i _ h0).mono ?_
  rintro e w1 ⟨rfl, hB⟩
  replace hW := hW.trans (hB.mono hW.size); replace h0 := h0.now hB; replace hb0 := hb0.now hB
  clear hB
  obtain ⟨k0, k1⟩ := hb0.c2
  have l0 := hb0.lt
  by_cases hc : idxCode ge gp i = 0
  · obtain ⟨hg, ht0, ht1⟩ := idx_tok hc
    obtain ⟨-, hi0, hi1⟩ := idxCode_zero hc
    have hF : roomsF ge gp i = (max 1 (plAt gp i).tokens, min 8 ((plAt gp i).tokens + 5), 0) := by unfold roomsF; rw [if_pos hc]; rfl
    rw [hF]
    have hgl := okGraph_len hg
    by_cases h30 : gp.length = 30
    · have hE : Hid (roomTF ge gp i = ([], 3)) := by show _ = _; simp [roomTF, hc, h30]
      have q30 : ((gp.length : Int) == 30) = true := by rw [beq_iff_eq]; omega
      clear hg hc h30 hF
      go_wp2
      go_ret2
      exact RetOwnI.of hE.out ⟨_, rfl, Own.nil, hW⟩
    · have q30 : ((gp.length : Int) == 30) = false := by rw [beq_eq_false_iff_ne]; omega
      obtain ⟨lo, hlo⟩ : ∃ lo, max 1 (plAt gp i).tokens = lo := ⟨_, rfl⟩
      obtain ⟨hi', hhi⟩ : ∃ hi', min 8 ((plAt gp i).tokens + 5) = hi' := ⟨_, rfl⟩
      have hE : Hid (roomTF ge gp i = (roomL ge gp i lo (hi' + 1 - lo).toNat, 0)) := by show _ = _; unfold roomTF; rw [if_pos hc, if_neg h30, hlo, hhi]
      have hro : Hid (∀ r, lo ≤ r → r ≤ hi' → roomsOk gp [i] [r] = true) := fun r h1 h2 => by rw [roomsOk_one, hlo, hhi, inB_iff]; exact ⟨h1, h2⟩
      have hbu : Hid (bufOk gp.length [i] = true) := by show _ = _; rw [bufOk_oneT, inB_iff]; exact ⟨hi0, by omega⟩
      have hgH := Lib.hid hg
      obtain ⟨q, rfl⟩ := Int.eq_ofNat_of_zero_le hi0
      have hge := okGraph_ev hg
      obtain ⟨n, rfl⟩ := Int.eq_ofNat_of_zero_le (show 0 ≤ ge by omega)
      have hl30 : gp.length + 1 ≤ 30 := by omega
      have hlo1 : 1 ≤ lo ∧ lo ≤ hi' ∧ hi' ≤ 8 := by omega
      rw [hlo, hhi]
      have hOo : Own Ratio.cells 2 63 (w1.alloc (.cells #[] 63)) w1.heap.size (.slice (some ⟨w1.heap.size, 0, none⟩) 0 0) ([] : List Ratio) := own_new0 Ratio.cells 2 w1 63 w1.heap.size (Nat.le_refl _)
      have hBo : Below w1.heap.size w1 (w1.alloc (.cells #[] 63)) := (Below.refl _ _).alloc (Nat.le_refl _) _
      have hOoH := Lib.hid hOo
      have hBoH := Lib.hid hBo
      clear hg hc h30 hF hlo hhi ht0 ht1 hOo hBo
      obtain ⟨w3, rfl⟩ : ∃ w3 : World, w3 = w1 := ⟨_, rfl⟩
      go_wp2
      go_loopw [9, 10, 11, 12] (fun tv rv _ _ wr => ∃ (k : Nat) (L : List Ratio), rv = .int .i64 (lo + k) ∧ lo + (k : Int) ≤ hi' + 1 ∧ Hid (L = roomL n gp q lo k) ∧ Own Ratio.cells 2 63 wr w3.heap.size tv L ∧ Below w3.heap.size w3 wr) (fun _ rv _ _ _ => (hi' + 1 - intOf rv).toNat)
      case atStart => exact ⟨0, [], by simp, by omega, rfl, hOoH.out, hBoH.out⟩
      case round =>
        clear hOoH hBoH
        obtain ⟨k, L, rfl, hk, hL, hO, hBr⟩ := hrel
        obtain ⟨TA, tc, rfl⟩ := hO.shape
        have hLl : Hid (L.length = k) := by show _ = _; rw [hL.out, roomL_len]
        have hs := hBr.size
        clear k0 k1 l0
        obtain ⟨k0, k1⟩ := (hb0.now hBr).c2
        have l0 := (hb0.now hBr).lt
        by_cases hlt : lo + (k : Int) ≤ hi'
        · skip
          have wk : IntKind.i64.wrap (lo + (k : Int) + 1) = lo + (k : Int) + 1 := IntWalk.i64_in _ (by omega)
          have hroom := hro.out (lo + (k : Int)) (by omega) hlt
          have hroomH := Lib.hid hroom
          have hlimq := Lib.hid (lim_ok hgH.out hbu.out hroom (by simpa using hl30))
          clear hroom
          go_wp2_with fail
          clear k0 k1 l0
          have hZ1 : Below wr.heap.size wr (wr.alloc (.cells #[.int .i64 (q : Nat)] 2)) := (Below.refl _ _).alloc (Nat.le_refl _) _
          have hZ : Below wr.heap.size wr ((wr.alloc (.cells #[.int .i64 (q : Nat)] 2)).alloc (.cells #[.int .i64 (lo + (k : Int))] 2)) := hZ1.alloc hZ1.size _
          have a1 := ((lst_new1 intCell 1 intCell_len wr 2 (q : Int) #[.int .i64 (q : Nat)] rfl wr.heap.size rfl).more (show wr.heap.size + 1 ≤ (wr.alloc (.cells #[.int .i64 (q : Nat)] 2)).heap.size by simp)).alloc (.cells #[.int .i64 (lo + (k : Int))] 2)
          have a2 := (lst_new1 intCell 1 intCell_len (wr.alloc (.cells #[.int .i64 (q : Nat)] 2)) 2 (lo + (k : Int)) #[.int .i64 (lo + (k : Int))] rfl (wr.heap.size + 1) (by simp)).more (show wr.heap.size + 1 + 1 ≤ ((wr.alloc (.cells #[.int .i64 (q : Nat)] 2)).alloc (.cells #[.int .i64 (lo + (k : Int))] 2)).heap.size by simp)
          have hOz := hO.now hZ
          have hBz := hBr.trans (hZ.mono hs)
          refine (spec_l16Limit _ (n : Int) gp _ [(q : Int)] _ [lo + (k : Int)] _ (h0.now hBz) a1 a2 hgH hbu hroomH).mono ?_
          rintro e wa ⟨x, rfl, hG, hB2⟩
          replace hOz := hOz.now hB2
          replace hBz := hBz.trans (hB2.mono hBz.size)
          clear a1 a2 hZ hZ1 hO hB2
          obtain ⟨G, hGd⟩ : ∃ G, gp ++ backs gp [(q : Int)] [lo + (k : Int)] [(q : Int)].length = G := ⟨_, rfl⟩
          rw [hGd] at hG hlimq
          obtain ⟨GA, gc, rfl⟩ := hG.shape
          go_wp2_with fail
          refine (spec_CycleTime _ (n : Int) G _ hG.lst).mono ?_
          rintro e wb ⟨rfl, hB2⟩
          replace hOz := hOz.now hB2
          replace hBz := hBz.trans (hB2.mono hBz.size)
          clear hB2 hG
          obtain ⟨ca, cb, cc9, hcd⟩ : ∃ ca cb cc9, ctF n G = (ca, cb, cc9) := ⟨_, _, _, rfl⟩
          rw [hcd]
          have hLs := roomL_succ n gp q lo k
          have hrr : roomR n gp q (lo + (k : Int)) = if cc9 = 0 then ⟨ca, cb⟩ else ⟨0, 1⟩ := by unfold roomR; rw [show gp ++ backs gp [(q : Int)] [lo + (k : Int)] 1 = G from hGd, hcd]
          clear hcd hGd hlimq
          have hs2 := hBz.size
          by_cases hc9 : cc9 = 0
          · have q9 : (cc9 != 0) = false := by simp [hc9]
            rw [if_pos hc9] at hrr
            have hLn : Hid (L ++ [⟨ca, cb⟩] = roomL n gp q lo (k + 1)) := by show _ = _; rw [hLs, hL.out, hrr]
            have hbx := Blk.newAt wb (t := 63) (cs := #[.int .i64 ca, .int .i64 cb]) _ rfl
            have hA9 : Below wb.heap.size wb (wb.alloc (.cells #[.int .i64 ca, .int .i64 cb] 63)) := (Below.refl _ _).alloc (Nat.le_refl _) _
            obtain ⟨x0, x1⟩ := hbx.c2
            have hO9 := Lib.hid ((hOz.now hA9).alloc (.cells #[.int .i64 ca, .int .i64 cb] 63))
            have hB9 := Lib.hid ((hBz.trans (hA9.mono hBz.size)).alloc (Nat.le_trans hBz.size hA9.size) (.cells #[.int .i64 ca, .int .i64 cb] 63))
            have hsz : Hid (w3.heap.size ≤ ((wb.alloc (.cells #[.int .i64 ca, .int .i64 cb] 63)).alloc (.cells #[.int .i64 ca, .int .i64 cb] 63)).heap.size) := hB9.out.size
            have hlenA : L.length + [(⟨ca, cb⟩ : Ratio)].length ≤ 1099511627776 := by have := hLl.out; simp; omega
            clear hOz hBz hrr hLs
            go_wp2_with (at_builtin; refine wpList_append_lst rfl _ _ 78 rfl Ratio.cells 2 Ratio.cells_one (by omega) w3.heap.size 63 _ 16 Try.underlying78 info_impl_ratio rfl _ _ rfl hO9.out _ _ _ _ [⟨ca, cb⟩] rfl (lst_new1 Ratio.cells 2 Ratio.cells_len _ _ _ _ rfl _ (by simp)) hlenA (by omega) hsz.out ?_; intro v' w9 hO1 hG1 hD1)
            go_roundw
            case rel => exact ⟨k + 1, _, by go_num, by omega, hLn, hO1, hB9.out.grown hG1 hB9.out.size (fun g hg => (hO9.out.lt g hg).1)⟩
            case measure => simp [intOf]; omega
          · have q9 : (cc9 != 0) = true := by simpa using hc9
            rw [if_neg hc9] at hrr
            have hLn : Hid (L ++ [⟨0, 1⟩] = roomL n gp q lo (k + 1)) := by show _ = _; rw [hLs, hL.out, hrr]
            have hbx := Blk.newAt wb (t := 63) (cs := #[.int .i64 ca, .int .i64 cb]) _ rfl
            have hA9 : Below wb.heap.size wb (wb.alloc (.cells #[.int .i64 ca, .int .i64 cb] 63)) := (Below.refl _ _).alloc (Nat.le_refl _) _
            have hf := hbx.frozen
            have hf0 := hf 0
            have hf1 := hf 1
            have hlx := hbx.lt
            replace hA9 : Below wb.heap.size wb (wb.alloc (.cells #[.int .i64 0, .int .i64 1] 63)) := (Below.refl _ _).alloc (Nat.le_refl _) _
            have hbx2 := Blk.newAt wb (t := 63) (cs := #[.int .i64 0, .int .i64 1]) _ rfl
            obtain ⟨c0, c1⟩ := hbx.c2
            obtain ⟨x0, x1⟩ := hbx2.c2
            have hO9 := Lib.hid ((hOz.now hA9).alloc (.cells #[.int .i64 0, .int .i64 1] 63))
            have hB9 := Lib.hid ((hBz.trans (hA9.mono hBz.size)).alloc (Nat.le_trans hBz.size hA9.size) (.cells #[.int .i64 0, .int .i64 1] 63))
            have hsz : Hid (w3.heap.size ≤ ((wb.alloc (.cells #[.int .i64 0, .int .i64 1] 63)).alloc (.cells #[.int .i64 (0), .int .i64 1] 63)).heap.size) := hB9.out.size
            have hlenA : L.length + [(⟨0, 1⟩ : Ratio)].length ≤ 1099511627776 := by have := hLl.out; simp; omega
            clear hOz hBz hrr hLs
            go_wp2_with (at_builtin; refine wpList_append_lst rfl _ _ 78 rfl Ratio.cells 2 Ratio.cells_one (by omega) w3.heap.size 63 _ 16 Try.underlying78 info_impl_ratio rfl _ _ rfl hO9.out _ _ _ _ [⟨0, 1⟩] rfl (lst_new1 Ratio.cells 2 Ratio.cells_len _ _ _ _ rfl _ (by simp)) hlenA (by omega) hsz.out ?_; intro v' w9 hO1 hG1 hD1)
            go_roundw
            case rel => exact ⟨k + 1, _, by go_num, by omega, hLn, hO1, hB9.out.grown hG1 hB9.out.size (fun g hg => (hO9.out.lt g hg).1)⟩
            case measure => simp [intOf]; omega
        · have hkk : (hi' + 1 - lo).toNat = k := by omega
          have hnl : hi' < lo + (k : Int) := by omega
          go_wp2
          go_ret2
          exact RetOwnI.of hE.out ⟨_, rfl, by rw [hkk, ← hL.out]; exact hO.rebase hW.size, hW.trans (hBr.mono hW.size)⟩
  · have hE : Hid (roomTF ge gp i = ([], idxCode ge gp i)) := by show _ = _; unfold roomTF; rw [if_neg hc]
    have hF : roomsF ge gp i = (0, 0, idxCode ge gp i) := by unfold roomsF; rw [if_neg hc]
    rw [hF]
    have q0 : (idxCode ge gp i == 0) = false := by simpa using hc
    have q1 : (idxCode ge gp i != 0) = true := by simpa using hc
    generalize idxCode ge gp i = code at *
    clear hc hF
    go_wp2
    go_ret2
    exact RetOwnI.of hE.out ⟨_, rfl, Own.nil, hW⟩
end Go.Proofs.Ytkbhbmoogkjafaa
