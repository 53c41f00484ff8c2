/-
  SequenceFor, the program's and the reference's.
-/
import Derived.Test.YtilfjfjoppecgaaSeqP
import Derived.Test.YtilfjfjoppecgaaOrdH
namespace Go.Proofs.Ytilfjfjoppecgaa
open Go.RowKit
set_option linter.unusedVariables false
set_option linter.unusedSimpArgs false

set_option maxHeartbeats 1000000 in
set_option maxRecDepth 100000 in
theorem impl_total (v : Value) (l : List Int) (w : World) (h0 : Lst intCell 1 w w.heap.size v l) (hb : Hid (∀ x ∈ l, 0 ≤ x ∧ x ≤ 100)) (hl : l.length ≤ 1000) :
    Calls Try.prog 78 #[v] w fun r w' => r = .returned (.int .i64 (sumI l)) ∧ w = w' := by
  obtain ⟨A, c, rfl⟩ := h0.shape
  go_enter Try.func78, Try.ntmps78
  go_wp2
  go_loop [3, 5, 8] (fun s _ i => ∃ k : Nat, k ≤ l.length ∧ i = .int .i64 k ∧ s = .int .i64 (sumI (l.take k))) (fun _ _ i => l.length - (intOf i).toNat)
  case atStart => exact ⟨0, Nat.zero_le _, rfl, by rw [List.take_zero]; rfl⟩
  case round =>
    obtain ⟨k, hk, rfl, rfl⟩ := hrel
    by_cases hlt : k < l.length
    · obtain ⟨b, off, hA, -, d0⟩ := ints_at h0 k hlt
      cases hA
      have hT := Lib.hid (sumI_take l k hlt)
      have h1 := sumI_bd (l.take k) (fun x hx => hb.out x (List.mem_of_mem_take hx))
      have h2 := hb.out _ (List.getElem_mem hlt)
      rw [List.length_take, Nat.min_eq_left hk] at h1
      generalize sumI (l.take k) = s at *
      go_wp2
      go_round
      case rel => exact ⟨k + 1, hlt, by go_num, by rw [hT.out]⟩
      case measure => simp [intOf]; omega
    · obtain rfl : k = l.length := by omega
      rw [List.take_length]
      go_wp2
      go_ret
      exact ⟨rfl, rfl⟩
set_option maxHeartbeats 1000000 in
set_option maxRecDepth 100000 in
theorem spec_l16Sum (v : Value) (l : List Int) (w : World) (h0 : Lst intCell 1 w w.heap.size v l) (hb : Hid (∀ x ∈ l, 0 ≤ x ∧ x ≤ 100)) (hl : l.length ≤ 1000) :
    Calls Try.prog 87 #[v] w fun r w' => r = .returned (.int .i64 (sumI l)) ∧ w = w' := by
  obtain ⟨A, c, rfl⟩ := h0.shape
  go_enter Try.func87, Try.ntmps87
  go_wp2
  go_loop [3, 4] (fun s i => ∃ k : Nat, k ≤ l.length ∧ i = .int .i64 k ∧ s = .int .i64 (sumI (l.take k))) (fun _ i => l.length - (intOf i).toNat)
  case atStart => exact ⟨0, Nat.zero_le _, rfl, by rw [List.take_zero]; rfl⟩
  case round =>
    obtain ⟨k, hk, rfl, rfl⟩ := hrel
    by_cases hlt : k < l.length
    · obtain ⟨b, off, hA, -, d0⟩ := ints_at h0 k hlt
      cases hA
      have hT := Lib.hid (sumI_take l k hlt)
      have h1 := sumI_bd (l.take k) (fun x hx => hb.out x (List.mem_of_mem_take hx))
      have h2 := hb.out _ (List.getElem_mem hlt)
      rw [List.length_take, Nat.min_eq_left hk] at h1
      generalize sumI (l.take k) = s at *
      go_wp2
      go_round
      case rel => exact ⟨k + 1, hlt, by go_num, by rw [hT.out]⟩
      case measure => simp [intOf]; omega
    · obtain rfl : k = l.length := by omega
      rw [List.take_length]
      go_wp2
      go_ret
      exact ⟨rfl, rfl⟩
set_option maxHeartbeats 1000000 in
set_option maxRecDepth 100000 in
theorem impl_SequenceFor1 (x : Nat) (lb g c n : Nat) (left : List Int) (w : World) (hln : left.length = n) (hbx : w.cell? ⟨lb, 0, none⟩ = some (.slice (some ⟨g, 0, none⟩) n c)) (hL : Lst intCell 1 w w.heap.size (.slice (some ⟨g, 0, none⟩) n c) left) (hx : x < left.length) :
    Calls Try.prog 83 #[.int .i64 x, .pointer (some ⟨lb, 0, none⟩)] w fun r w' => r = .returned (.bool (wantF left x)) ∧ w = w' := by
  subst hln
  obtain ⟨b, off, hA, -, d0⟩ := ints_at hL x hx
  cases hA
  rw [Nat.zero_add] at d0
  have i1 : (0 : Int) ≤ (x : Int) := by omega
  have i2 : (x : Int) < (left.length : Int) := by omega
  have hv : Hid (wantF left (x : Int) = decide (0 < left[x])) := by show _ = _; simp [wantF, List.getD, List.getElem?_eq_getElem hx]
  rw [hv.out]
  go_enter Try.func83, Try.ntmps83
  go_wp2
  go_ret
  exact ⟨rfl, rfl⟩
set_option maxHeartbeats 1000000 in
set_option maxRecDepth 100000 in
theorem seq_index (v : Value) (l : List Int) (lb g c n : Nat) (left : List Int) (w : World) (h0 : Lst intCell 1 w w.heap.size v l) (hln : left.length = n) (hbx : w.cell? ⟨lb, 0, none⟩ = some (.slice (some ⟨g, 0, none⟩) n c)) (hL : Lst intCell 1 w w.heap.size (.slice (some ⟨g, 0, none⟩) n c) left)
    (hmem : Hid (∀ x ∈ l, 0 ≤ x ∧ x < (left.length : Int))) :
    Calls Try.prog 82 #[v, .func (.func 83) #[] #[.pointer (some ⟨lb, 0, none⟩)]] w fun r w' => r = .returned (.int .i64 (idxP (wantF left) l)) ∧ w = w' := by
  obtain ⟨A, cA, rfl⟩ := h0.shape
  have hl := h0.len_le
  have hcl := Lib.hid (fun x hx => impl_SequenceFor1 x lb g c n left w hln hbx hL hx)
  go_enter Try.func82, Try.ntmps82
  go_wp2
  go_loop [5, 8] (fun _ i => ∃ k : Nat, k ≤ l.length ∧ i = .int .i64 k ∧ Hid (∀ j (hj : j < k) (hl : j < l.length), wantF left l[j] = false)) (fun _ i => l.length - (intOf i).toNat)
  case atStart => exact ⟨0, Nat.zero_le _, rfl, fun j hj => absurd hj (by omega)⟩
  case round =>
    obtain ⟨k, hk, rfl, hN⟩ := hrel
    by_cases hlt : k < l.length
    · obtain ⟨b, off, hA, -, d0⟩ := ints_at h0 k hlt
      cases hA
      have hm := hmem.out _ (List.getElem_mem hlt)
      obtain ⟨x, hx⟩ := Int.eq_ofNat_of_zero_le hm.1
      have hxl : x < left.length := by omega
      cases heq : wantF left l[k]
      · have hN' : Hid (∀ j (hj : j < k + 1) (hl : j < l.length), wantF left l[j] = false) := by
          intro j hj hl2
          rcases Nat.lt_or_ge j k with h | h
          · exact hN.out j h hl2
          · obtain rfl : j = k := by omega
            exact heq
        rw [hx] at d0 heq
        clear hx hm
        go_wp2_with (go_at_call 83; refine (hcl.out x hxl).mono ?_; rintro e w1 ⟨rfl, rfl⟩; rw [heq])
        go_round
        case rel => exact ⟨k + 1, hlt, by go_num, hN'⟩
        case measure => simp [intOf]; omega
      · have hF : Hid (idxP (wantF left) l = k) := idxP_hit (wantF left) l k hlt (fun j hj => hN.out j hj (by omega)) heq
        rw [hx] at d0 heq
        clear hx hm
        go_wp2_with (go_at_call 83; refine (hcl.out x hxl).mono ?_; rintro e w1 ⟨rfl, rfl⟩; rw [heq])
        go_ret
        exact ⟨ret_int hF.out.symm, rfl⟩
    · obtain rfl : k = l.length := by omega
      have hF : Hid (idxP (wantF left) l = -1) := idxP_miss (wantF left) l fun j hj => hN.out j hj hj
      go_wp2
      go_ret
      exact ⟨ret_int hF.out.symm, rfl⟩
set_option maxHeartbeats 8000000 in
set_option maxRecDepth 100000 in
theorem impl_SequenceFor (v : Value) (ge : Int) (gp : List Place) (u : Value) (l : List Int) (w : World) (h0 : Lst Place.cells 4 w w.heap.size v gp) (h1 : Lst intCell 1 w w.heap.size u l) :
    Calls Try.prog 13 #[.agg #[.int .i64 ge, v], u] w (RetOwnI intCell 1 2 w (seqForF ge gp l).1 (seqForF ge gp l).2) := by
  obtain ⟨A, c, rfl⟩ := h0.shape
  obtain ⟨C, d, rfl⟩ := h1.shape
  have hmax := h1.len_le
  go_enter Try.func13, Try.ntmps13
  go_wp2_with fail
  have hW : Below w.heap.size w (w.alloc (.cells #[.int .i64 ge, .slice A gp.length c] 26)) := (Below.refl _ _).alloc (Nat.le_refl _) _; have hb0 : Blk (w.alloc (.cells #[.int .i64 ge, .slice A gp.length c] 26)) w.heap.size 26 #[.int .i64 ge, .slice A gp.length c] := Blk.new _ _ _; replace h0 := h0.now hW; replace h1 := h1.now hW; generalize (w.alloc (.cells #[.int .i64 ge, .slice A gp.length c] 26)) = W at *
  refine (impl_IsEventGraph _ _ _ _ h0).mono ?_
  rintro e w1 ⟨rfl, hB⟩
  replace hW := hW.trans (hB.mono hW.size); replace h0 := h0.now hB; replace h1 := h1.now hB; replace hb0 := hb0.now hB
  obtain ⟨k0, k1⟩ := hb0.c2
  clear hB
  cases hg : okGraph ge gp
  · have hE : Hid (seqForF ge gp l = ([], 1)) := by show _ = _; simp [seqForF, hg]
    clear hg
    go_wp2
    go_ret2
    exact RetOwnI.of hE.out ⟨_, rfl, Own.nil, hW⟩
  · obtain ⟨hge1, hge2⟩ := okGraph_ev hg
    have hgl := okGraph_len hg
    obtain ⟨n, rfl⟩ := Int.eq_ofNat_of_zero_le (show 0 ≤ ge by omega)
    have hg' := Lib.hid hg
    clear hg
    have hbad : Hid ((decide ((l.length : Int) = (n : Int)) && allB l 0 100 && decide (sumI l ≤ 100)) = false → seqForF n gp l = ([], 2)) := by
      intro h
      unfold seqForF
      rw [hg'.out, h]
      rfl
    by_cases hln : l.length = n
    · have q1 : ((l.length : Int) != (n : Int)) = false := by simp [hln]
      have hlnH := Lib.hid hln
      clear hln
      cases hin : allB l 0 100
      · have hE := Lib.hid (hbad.out (by simp [hin]))
        clear hbad
        go_wp2_with (go_at_call 77; refine (impl_allWithin _ _ _ _ _ h1).mono ?_; rintro e w' ⟨rfl, rfl⟩; rw [hin])
        go_ret2
        exact RetOwnI.of hE.out ⟨_, rfl, Own.nil, hW⟩
      · have hbd : Hid (∀ x ∈ l, 0 ≤ x ∧ x ≤ 100) := fun x hx => (inB_iff _ _ _).1 (List.all_eq_true.1 hin x hx)
        by_cases hsm : sumI l ≤ 100
        · have q2 : decide (100 < sumI l) = false := by simp; omega
          obtain ⟨hE, hLk, hsm'⟩ := seqForF_go hg'.out (show (decide ((l.length : Int) = (n : Int)) && allB l 0 100 && decide (sumI l ≤ 100)) = true by simp [hlnH.out, hin, hsm])
          have hE := Lib.hid hE
          have hLkH := Lib.hid hLk
          have hs0 : Hid (sumI l ≤ 100) := hsm
          clear hbad hLk hsm hsm'
          go_wp2_with (first | (go_at_call 77; refine (impl_allWithin _ _ _ _ _ h1).mono ?_; rintro e w' ⟨rfl, rfl⟩; rw [hin]) | (go_at_call 78; refine (impl_total _ _ _ h1 hbd (by have := hlnH.out; omega)).mono ?_; rintro e w' ⟨rfl, rfl⟩))
          refine (slices_Clone_i64 _ _ _ h1 (by have := hlnH.out; omega)).mono ?_
          rintro e w2 ⟨y, rfl, hLo, hB2⟩
          obtain ⟨LA, lc, rfl⟩ := own_shape_n hLo hlnH.out
          obtain ⟨g, cg, hLA, hgb, hgl0, -, -⟩ := hLo.at_ intCell_len 0 (by have := hlnH.out; omega)
          rw [hlnH.out] at hLA
          cases hLA
          have h0b := h0
          have hb0b := hb0
          have hb1 := hb0.now hB2
          obtain ⟨k0, k1⟩ := hb1.c2
          have l0 := hb1.lt
          have hs1 := hW.size
          have hs2 := hB2.size
          go_wp2_with fail
          have hZ : Below w2.heap.size w2 (w2.alloc (.cells #[.slice (some ⟨g, 0, none⟩) n lc] 27)) := (Below.refl _ _).alloc (Nat.le_refl _) _
          have hbl := Blk.newAt w2 (t := 27) (cs := #[.slice (some ⟨g, 0, none⟩) n lc]) _ rfl
          have hs3 : Hid ((w2.alloc (.cells #[.slice (some ⟨g, 0, none⟩) n lc] 27)).heap.size = w2.heap.size + 1) := by show _ = _; simp
          replace h0 := (h0.now hB2).now hZ
          replace hb0 := hb1.now hZ
          replace hLo := hLo.now hZ
          have hB3 := hB2.trans (hZ.mono hs2)
          clear hZ hb1 k0 k1 l0
          generalize w2.alloc (.cells #[.slice (some ⟨g, 0, none⟩) n lc] 27) = w3 at *
          generalize w2.heap.size = lb at *
          refine (impl_firstMarking _ _ _ _ h0 hgl).mono ?_
          rintro e w4 ⟨mv, rfl, hm0, hB4⟩
          rw [hs3.out] at hm0
          have hB5 := hB3.trans (hB4.mono (by rw [hs3.out]; omega))
          replace h0 := h0.now hB4
          replace hb0 := hb0.now hB4
          replace hbl := hbl.now hB4
          replace hLo := hLo.now hB4
          clear hB2 hB3 hB4 hs3 h1
          have hok0 := Lib.hid (firstF_ok hg'.out)
          have hlw : lb < w4.heap.size := hbl.lt
          go_wp2
          go_loopw [7, 8, 9, 10, 11, 12, 13] (fun mv ov _ _ _ _ _ wr => ∃ (left m out : List Int) (Y : Option Addr) (cy : Nat), ov = .slice Y out.length cy ∧ Hid (LeftOk n left) ∧ Hid (okMarking gp m = true) ∧ Hid ((out.length : Int) + sumI left ≤ 100) ∧ Hid (sfF n gp (sumI left).toNat left m out = sfF n gp (sumI l).toNat l (firstF gp) []) ∧ Own intCell 1 2 wr (lb + 1) mv m ∧ Own intCell 1 2 wr (lb + 1) (.slice Y out.length cy) out ∧ Hid (∀ k, mv.ownBlock = some k → (Value.slice Y out.length cy).ownBlock = some k → False) ∧ Blk wr lb 27 #[.slice (some ⟨g, 0, none⟩) n lc] ∧ Own intCell 1 2 wr w1.heap.size (.slice (some ⟨g, 0, none⟩) n lc) left ∧ Below w1.heap.size w1 wr) (fun _ ov _ _ _ _ _ _ => 101 - lenV ov)
          case atStart => exact ⟨l, _, [], none, 0, rfl, hLkH, hok0, (by show ((0 : Nat) : Int) + _ ≤ 100; have := hs0.out; omega), rfl, hm0, Own.nil, (fun k _ hk => by cases hk), hbl, hLo, hB5⟩
          case round =>
            clear hm0 hbl hLo hB5 hlw hok0 hLkH
            obtain ⟨left, m, out, Y, cy, rfl, hLk, hm, hsum, hR, hM, hO, hdis, hbl, hLo, hB⟩ := hrel
            have hs := hB.size
            have hbr := hb0b.now hB
            obtain ⟨k0, k1⟩ := hbr.c2
            have l0 := hbr.lt
            have h0r := h0b.now hB
            have b0 : wr.cell? ⟨lb, 0, none⟩ = some (.slice (some ⟨g, 0, none⟩) n lc) := by simpa using hbl.cell 0
            have b1 := hbl.lt
            have hll := hLk.out.len
            have hml := Lib.hid (okMarking_len hm.out)
            have hsb := sumI_bd left hLk.out.bd
            by_cases hpos : 0 < sumI left
            · have q0 : decide (0 < sumI left) = true := decide_eq_true hpos
              have hposH := Lib.hid hpos
              go_wp2_with (go_at_call 78; refine (impl_total _ _ _ hLo.lst (Lib.hid hLk.out.bd) (by omega)).mono ?_; rintro e w' ⟨rfl, rfl⟩)
              refine (impl_enabledIn _ n _ _ _ _ h0r hM.lst hml.out (by omega)).mono ?_
              rintro e w5 ⟨ex, rfl, hEn, hB5⟩
              obtain ⟨EX, ec, rfl⟩ := hEn.shape
              have hs5 := hB5.size
              have y0 := cell_keep b0 hB5
              have hmem : Hid (∀ x ∈ enL gp m n, 0 ≤ x ∧ x < (left.length : Int)) := fun x hx => by have := ((enL_mem gp m n x).1 hx).1; omega
              have hlen5 := enL_len gp m n
              go_wp2_with fail
              refine (seq_index _ _ lb g lc n left w5 hEn.lst hll y0 (hLo.now hB5).lst hmem).mono ?_
              rintro e w' ⟨rfl, rfl⟩
              cases hp : pickF n gp left m with
              | none =>
                rw [pick_none hp]
                have hE' : Hid (seqForF n gp l = ([], 5)) := by show _ = _; rw [hE.out, ← hR.out]; exact sfF_none (by omega) hp
                clear hp
                go_wp2
                go_ret2
                exact RetOwnI.of hE'.out ⟨_, rfl, Own.nil, hW.trans ((hB.trans (hB5.mono hs)).mono hs1)⟩
              | some e =>
                obtain ⟨j, hj, hji, hje⟩ := pick_some hp
                obtain ⟨hen, hge0, henb⟩ := pick_in hp
                rw [hji]
                obtain ⟨be, oe, hEA, -, d0⟩ := ints_at hEn.lst j hj
                cases hEA
                rw [hje] at d0
                have q3 : decide ((j : Int) < 0) = false := by simp
                have hj2 : (j : Int) < ((enL gp m n).length : Int) := by omega
                have hbr5 := hbr.now hB5
                obtain ⟨k0, k1⟩ := hbr5.c2
                have l0 := hbr5.lt
                have hfe : Hid (firedF n gp m (e : Int) = if okMarking gp (fireM gp m e) = false then ([], 3) else (fireM gp m e, 0)) := by
                  show _ = _
                  have : inB (e : Int) 0 ((n : Int) - 1) = true := by rw [inB_iff]; omega
                  simp only [firedF, this, henb, Bool.and_self, Bool.true_eq_false, if_false]
                have hpH := Lib.hid hp
                clear hp hji hje henb
                go_wp2_with fail
                refine (impl_fired _ n _ _ _ _ _ (h0r.now hB5) (hM.now hB5).lst hm (by omega) hgl).mono ?_
                rintro e6 w6 ⟨mx, rfl, hMx, hB6⟩
                rw [hfe.out] at hMx ⊢
                have hB56 := hB5.trans (hB6.mono hs5)
                have hBt := hB.trans (hB56.mono hs)
                cases hmk : okMarking gp (fireM gp m e)
                · have hE' : Hid (seqForF n gp l = ([], 3)) := by show _ = _; rw [hE.out, ← hR.out]; exact sfF_bad (by omega) hpH.out hmk
                  clear hmk hMx
                  simp only [if_true]
                  go_wp2
                  go_ret2
                  exact RetOwnI.of hE'.out ⟨_, rfl, Own.nil, hW.trans (hBt.mono hs1)⟩
                · have hmk' := Lib.hid hmk
                  have hgo := Lib.hid (hR.out.symm.trans (sfF_go (out := out) hposH.out (by omega) hpH.out hmk))
                  rw [hmk] at hMx
                  simp only [Bool.true_eq_false, if_false] at hMx
                  simp only [Bool.true_eq_false, if_false]
                  have hst := hLk.out.step e hge0
                  have hst' := Lib.hid hst
                  have hsum' := sumI_set left e (left.getD e 0 - 1) (by omega)
                  have hsumH : Hid (((out ++ [(e : Int)]).length : Int) + sumI (left.set e (left.getD e 0 - 1)) ≤ 100) := by
                    show _ ≤ _
                    rw [hsum']
                    have := hsum.out
                    simp only [List.length_append, List.length_cons, List.length_nil]
                    omega
                  have hlx : left.getD e 0 = left[e]'(by omega) := by simp [List.getD, List.getElem?_eq_getElem (show e < left.length by omega)]
                  have hlb := hLk.out.bd _ (List.getElem_mem (show e < left.length by omega))
                  have hol := hsum.out
                  clear hmk hst hsum'
                  have hL6 := hLo.now hB56
                  obtain ⟨hg1, hg2, hgf, g0⟩ := own_ints_at hL6 e (by omega)
                  rw [← hlx] at g0 hlb
                  have hbl6 := hbl.now hB56
                  have y6 : w6.cell? ⟨lb, 0, none⟩ = some (.slice (some ⟨g, 0, none⟩) n lc) := by simpa using hbl6.cell 0
                  have hO6 := (hO.now hB56).far (p := ⟨g, e, none⟩) (show g < lb + 1 by omega) (.int .i64 (left.getD e 0 - 1))
                  have hM6 := hMx.far (p := ⟨g, e, none⟩) (show g < w5.heap.size by omega) (.int .i64 (left.getD e 0 - 1))
                  have hLs := hL6.set1 e (by omega) (left.getD e 0 - 1)
                  have hbls := hbl6.far (p := ⟨g, e, none⟩) (show lb ≠ g by omega) (.int .i64 (left.getD e 0 - 1))
                  have hBs := hBt.setCell (p := ⟨g, e, none⟩) hgb (.int .i64 (left.getD e 0 - 1))
                  have hlen : out.length + [(e : Int)].length ≤ 1099511627776 := by simp; omega
                  have hLL : Hid ((out ++ [(e : Int)]).length = out.length + 1) := by show _ = _; simp
                  have hoB : Hid (∀ k, (Value.slice Y out.length cy).ownBlock = some k → lb + 1 ≤ k ∧ k < wr.heap.size) := fun k hk => hO.lt k hk
                  have hmB : Hid (∀ k, mx.ownBlock = some k → w5.heap.size ≤ k ∧ k < w6.heap.size) := fun k hk => hMx.lt k hk
                  have hl6 := hbl6.lt
                  have j3 : (0 : Int) ≤ (e : Int) := by omega
                  have j4 : (e : Int) < (n : Int) := by omega
                  have hlbn : lb ≠ g := by omega
                  have hlbn2 : g ≠ lb := by omega
                  generalize left.getD e 0 = x at *
                  have wx : IntKind.i64.wrap (x - 1) = x - 1 := IntWalk.i64_in _ (by omega)
                  clear hLo hbl hO hMx hM b0 hlx
                  go_wp2_with (at_builtin; refine wpList_append_lst rfl _ _ 27 rfl intCell 1 intCell_one (by omega) (lb + 1) 2 _ 8 Try.underlying27 info_i64 rfl _ _ rfl (hO6.alloc _) _ _ _ _ [(e : Int)] rfl (lst_new1 _ _ intCell_len _ _ _ _ rfl _ (by simp)) hlen (by omega) (by simp <;> omega) ?_; intro v' w7 hO1 hG1 hD1; obtain ⟨V1, cv1, rfl⟩ := own_shape_n hO1 hLL.out)
                  have hG2 : ((w6.setCell ⟨g, e, none⟩ (.int .i64 (x - 1))).alloc (.cells #[.int .i64 (e : Nat)] 2)).grownBy w7 (Value.slice Y out.length cy).ownBlock := hG1
                  have hD2 : (Value.slice V1 (out.length + 1) cv1).ownBlock = (Value.slice Y out.length cy).ownBlock ∨ (Value.slice V1 (out.length + 1) cv1).ownBlock = some ((w6.setCell ⟨g, e, none⟩ (.int .i64 (x - 1))).alloc (.cells #[.int .i64 (e : Nat)] 2)).heap.size := hD1
                  clear hG1 hD1
                  have hM7 := own_kept (hM6.alloc (.cells #[.int .i64 (e : Nat)] 2)) hG2 (fun k a b => by have q1 := (hmB.out k a).1; have q2 := (hoB.out k b).2; omega)
                  have hL7 := own_kept (hLs.alloc (.cells #[.int .i64 (e : Nat)] 2)) hG2 (fun k a b => by have q2 := (hoB.out k b).1; have a2 : g = k := (by injection a); omega)
                  have hb7 := (hbls.now ((Below.refl _ _).alloc (Nat.le_refl _) (.cells #[.int .i64 (e : Nat)] 2))).grown hG2 (fun h => by have := (hoB.out lb h.symm).1; omega)
                  have hB7 := below_app (hBs.alloc (by simp; omega) (.cells #[.int .i64 (e : Nat)] 2)) (by simp; omega) hG2 (hO6.alloc _) (show w1.heap.size ≤ lb + 1 by omega)
                  have hdis' : Hid (∀ k, mx.ownBlock = some k → (Value.slice V1 (out ++ [(e : Int)]).length cv1).ownBlock = some k → False) := by
                    intro k a b
                    rw [hLL.out] at b
                    have q1 := hmB.out k a
                    rcases hD2 with h | h
                    · rw [h] at b
                      have q2 := (hoB.out k b).2
                      omega
                    · rw [h] at b
                      injection b with b
                      simp at b
                      omega
                  exact ⟨⟨_, _, out ++ [(e : Int)], V1, cv1, by rw [hLL.out], hst', hmk', hsumH, hgo.out.symm, hM7.rebase (by omega), by rw [hLL.out]; exact hO1, hdis', hb7, hL7, hB7⟩, by simp [lenV]; omega⟩
            · have q0 : decide (0 < sumI left) = false := decide_eq_false hpos
              have hE' : Hid (seqForF n gp l = (out, 0)) := by
                show _ = _
                rw [hE.out, ← hR.out, show (sumI left).toNat = 0 by omega]
                rfl
              clear hpos
              go_wp2_with (go_at_call 78; refine (impl_total _ _ _ hLo.lst (Lib.hid hLk.out.bd) (by omega)).mono ?_; rintro e w' ⟨rfl, rfl⟩)
              go_ret2
              exact RetOwnI.of hE'.out ⟨_, rfl, hO.rebase (by omega), hW.trans (hB.mono hs1)⟩
        · have q2 : decide (100 < sumI l) = true := by simp; omega
          have hE := Lib.hid (hbad.out (by simp [hsm]))
          clear hbad hsm
          go_wp2_with (first | (go_at_call 77; refine (impl_allWithin _ _ _ _ _ h1).mono ?_; rintro e w' ⟨rfl, rfl⟩; rw [hin]) | (go_at_call 78; refine (impl_total _ _ _ h1 hbd (by have := hlnH.out; omega)).mono ?_; rintro e w' ⟨rfl, rfl⟩))
          go_ret2
          exact RetOwnI.of hE.out ⟨_, rfl, Own.nil, hW⟩
    · have q1 : ((l.length : Int) != (n : Int)) = true := by simp; omega
      have hE := Lib.hid (hbad.out (by
        have : decide ((l.length : Int) = (n : Int)) = false := by simp; omega
        simp [this]))
      clear hbad
      go_wp2
      go_ret2
      exact RetOwnI.of hE.out ⟨_, rfl, Own.nil, hW⟩
set_option maxHeartbeats 8000000 in
set_option maxRecDepth 100000 in
theorem spec_SequenceFor (v : Value) (ge : Int) (gp : List Place) (u : Value) (l : List Int) (w : World) (h0 : Lst Place.cells 4 w w.heap.size v gp) (h1 : Lst intCell 1 w w.heap.size u l) :
    Calls Try.prog 14 #[.agg #[.int .i64 ge, v], u] w (RetOwnI intCell 1 2 w (seqForF ge gp l).1 (seqForF ge gp l).2) := by
  obtain ⟨A, c, rfl⟩ := h0.shape
  obtain ⟨C, d, rfl⟩ := h1.shape
  have hmax := h1.len_le
  go_enter Try.func14, Try.ntmps14
  go_wp2_with fail
  have hW : Below w.heap.size w (w.alloc (.cells #[.int .i64 ge, .slice A gp.length c] 26)) := (Below.refl _ _).alloc (Nat.le_refl _) _; have hb0 : Blk (w.alloc (.cells #[.int .i64 ge, .slice A gp.length c] 26)) w.heap.size 26 #[.int .i64 ge, .slice A gp.length c] := Blk.new _ _ _; replace h0 := h0.now hW; replace h1 := h1.now hW; generalize (w.alloc (.cells #[.int .i64 ge, .slice A gp.length c] 26)) = W at *
  refine (spec_IsEventGraph _ _ _ _ h0).mono ?_
  rintro e w1 ⟨rfl, hB⟩
  replace hW := hW.trans (hB.mono hW.size); replace h0 := h0.now hB; replace h1 := h1.now hB; replace hb0 := hb0.now hB
  obtain ⟨k0, k1⟩ := hb0.c2
  clear hB
  cases hg : okGraph ge gp
  · have hE : Hid (seqForF ge gp l = ([], 1)) := by show _ = _; simp [seqForF, hg]
    clear hg
    go_wp2
    go_ret2
    exact RetOwnI.of hE.out ⟨_, rfl, Own.nil, hW⟩
  · obtain ⟨hge1, hge2⟩ := okGraph_ev hg
    have hgl := okGraph_len hg
    obtain ⟨n, rfl⟩ := Int.eq_ofNat_of_zero_le (show 0 ≤ ge by omega)
    have hg' := Lib.hid hg
    clear hg
    have hbad : Hid ((decide ((l.length : Int) = (n : Int)) && allB l 0 100 && decide (sumI l ≤ 100)) = false → seqForF n gp l = ([], 2)) := by
      intro h
      unfold seqForF
      rw [hg'.out, h]
      rfl
    by_cases hln : l.length = n
    · have q1 : ((l.length : Int) != (n : Int)) = false := by simp [hln]
      have hlnH := Lib.hid hln
      clear hln
      have q5 : Hid (decide ((l.length : Int) ≤ 10) = true) := by show _ = _; have := hlnH.out; simp; omega
      cases hin : allB l 0 100
      · have hE := Lib.hid (hbad.out (by simp [hin]))
        clear hbad
        go_wp2_with (go_at_call 86; refine (spec_l01Within _ _ _ _ _ _ h1).mono ?_; rintro e w' ⟨rfl, rfl⟩; rw [hin, q5.out])
        go_ret2
        exact RetOwnI.of hE.out ⟨_, rfl, Own.nil, hW⟩
      · have hbd : Hid (∀ x ∈ l, 0 ≤ x ∧ x ≤ 100) := fun x hx => (inB_iff _ _ _).1 (List.all_eq_true.1 hin x hx)
        by_cases hsm : sumI l ≤ 100
        · have q2 : decide (100 < sumI l) = false := by simp; omega
          obtain ⟨hE, hLk, hsm'⟩ := seqForF_go hg'.out (show (decide ((l.length : Int) = (n : Int)) && allB l 0 100 && decide (sumI l ≤ 100)) = true by simp [hlnH.out, hin, hsm])
          have hE := Lib.hid hE
          have hLkH := Lib.hid hLk
          have hs0 : Hid (sumI l ≤ 100) := hsm
          clear hbad hLk hsm hsm'
          go_wp2_with (first | (go_at_call 86; refine (spec_l01Within _ _ _ _ _ _ h1).mono ?_; rintro e w' ⟨rfl, rfl⟩; rw [hin, q5.out]) | (go_at_call 87; refine (spec_l16Sum _ _ _ h1 hbd (by have := hlnH.out; omega)).mono ?_; rintro e w' ⟨rfl, rfl⟩))
          refine (spec_l01Own _ _ _ h1 (by have := hlnH.out; omega)).mono ?_
          rintro e w2 ⟨y, rfl, hLo, hB2⟩
          obtain ⟨LA, lc, rfl⟩ := own_shape_n hLo hlnH.out
          obtain ⟨g, cg, hLA, hgb, hgl0, -, -⟩ := hLo.at_ intCell_len 0 (by have := hlnH.out; omega)
          rw [hlnH.out] at hLA
          cases hLA
          have h0b := h0
          have hb0b := hb0
          have hb1 := hb0.now hB2
          obtain ⟨k0, k1⟩ := hb1.c2
          have l0 := hb1.lt
          have hs1 := hW.size
          have hs2 := hB2.size
          go_wp2_with fail
          have hZ : Below w2.heap.size w2 (w2.alloc (.cells #[] 2)) := (Below.refl _ _).alloc (Nat.le_refl _) _
          have hN0 := own_new0 intCell 1 w2 2 w2.heap.size (Nat.le_refl _)
          have hs3 : Hid ((w2.alloc (.cells #[] 2)).heap.size = w2.heap.size + 1) := by show _ = _; simp
          replace h0 := (h0.now hB2).now hZ
          replace hb0 := hb1.now hZ
          replace hLo := hLo.now hZ
          have hB3 := hB2.trans (hZ.mono hs2)
          clear hZ hb1 k0 k1 l0
          generalize w2.alloc (.cells #[] 2) = w3 at *
          generalize w2.heap.size = lb at *
          refine (spec_l17First _ _ _ _ h0 hgl).mono ?_
          rintro e w4 ⟨mv, rfl, hm0, hB4⟩
          rw [hs3.out] at hm0
          have hB5 := hB3.trans (hB4.mono (by rw [hs3.out]; omega))
          replace h0 := h0.now hB4
          replace hb0 := hb0.now hB4
          replace hLo := hLo.now hB4
          replace hN0 := hN0.now hB4
          have hdis0 : Hid (∀ k, mv.ownBlock = some k → (Value.slice (some ⟨lb, 0, none⟩) 0 0).ownBlock = some k → False) := by
            intro k a b
            have q1 := (hm0.lt k a).1
            have q2 : lb = k := by injection b
            omega
          have hlb0 : lb ≤ w4.heap.size := by have q1 := hB4.size; have q2 := hs3.out; omega
          clear hB2 hB3 hB4 hs3 h1
          have hok0 := Lib.hid (firstF_ok hg'.out)
          go_wp2
          go_loopw [7, 8, 9, 10, 11, 12] (fun ov mv _ _ _ _ wr => ∃ (left m out : List Int) (Y : Option Addr) (cy : Nat), ov = .slice Y out.length cy ∧ Hid (LeftOk n left) ∧ Hid (okMarking gp m = true) ∧ Hid ((out.length : Int) + sumI left ≤ 100) ∧ Hid (sfF n gp (sumI left).toNat left m out = sfF n gp (sumI l).toNat l (firstF gp) []) ∧ Own intCell 1 2 wr lb mv m ∧ Own intCell 1 2 wr lb (.slice Y out.length cy) out ∧ Hid (∀ k, mv.ownBlock = some k → (Value.slice Y out.length cy).ownBlock = some k → False) ∧ Own intCell 1 2 wr w1.heap.size (.slice (some ⟨g, 0, none⟩) n lc) left ∧ Below w1.heap.size w1 wr ∧ lb ≤ wr.heap.size) (fun ov _ _ _ _ _ _ => 101 - lenV ov)
          case atStart => exact ⟨l, _, [], some ⟨lb, 0, none⟩, 0, rfl, hLkH, hok0, (by show ((0 : Nat) : Int) + _ ≤ 100; have := hs0.out; omega), rfl, hm0.rebase (by omega), hN0, hdis0, hLo, hB5, hlb0⟩
          case round =>
            clear hm0 hLo hB5 hok0 hLkH hN0 hdis0
            obtain ⟨left, m, out, Y, cy, rfl, hLk, hm, hsum, hR, hM, hO, hdis, hLo, hB, hlbw⟩ := hrel
            have hs := hB.size
            have hbr := hb0b.now hB
            obtain ⟨k0, k1⟩ := hbr.c2
            have l0 := hbr.lt
            have h0r := h0b.now hB
            have hll := hLk.out.len
            have hml := Lib.hid (okMarking_len hm.out)
            have hsb := sumI_bd left hLk.out.bd
            by_cases hpos : 0 < sumI left
            · have q0 : decide (0 < sumI left) = true := decide_eq_true hpos
              have hposH := Lib.hid hpos
              go_wp2_with (go_at_call 87; refine (spec_l16Sum _ _ _ hLo.lst (Lib.hid hLk.out.bd) (by omega)).mono ?_; rintro e w' ⟨rfl, rfl⟩)
              have hPk := Lib.hid (fun j (h : j < n) => pkF_step n (fun e => decide (0 < left.getD e 0) && enB gp m (e : Int)) j h)
              have hP0 := Lib.hid (pkF_all n gp left m)
              have hPn := Lib.hid (pkF_end n (fun e => decide (0 < left.getD e 0) && enB gp m (e : Int)))
              have wn : IntKind.i64.wrap ((n : Int) - 1) = (n : Int) - 1 := IntWalk.i64_in _ (by omega)
              have hPE : Hid ((fun e : Nat => decide (0 < left.getD e 0) && enB gp m (e : Int)) = fun e : Nat => decide (0 < left.getD e 0) && enB gp m (e : Int)) := rfl
              go_wp2
              obtain ⟨wo, hwo⟩ : ∃ x, x = wr := ⟨_, rfl⟩
              subst hwo
              clear k0 k1 l0
              go_loopw [9, 10] (fun nx i wr => ∃ j : Nat, j ≤ n ∧ i = .int .i64 ((j : Int) - 1) ∧ nx = .int .i64 (pkF n (fun e => decide (0 < left.getD e 0) && enB gp m (e : Int)) j) ∧ Below wo.heap.size wo wr) (fun _ i _ => (intOf i + 1).toNat)
              case atStart => exact ⟨n, Nat.le_refl _, rfl, by rw [hPn.out], Below.refl _ _⟩
              case round =>
                obtain ⟨j, hj, rfl, rfl, hBj⟩ := hrel
                have hbj := hbr.now hBj
                obtain ⟨k0, k1⟩ := hbj.c2
                have l0 := hbj.lt
                by_cases hjp : 0 < j
                · obtain ⟨i, rfl⟩ : ∃ i, j = i + 1 := ⟨j - 1, by omega⟩
                  have hin2 : i < n := by omega
                  have hcast : ((i + 1 : Nat) : Int) - 1 = (i : Int) := by omega
                  rw [hcast]
                  have q7 : decide ((0 : Int) ≤ (i : Int)) = true := by simp
                  have hS := Lib.hid (hPk.out i hin2)
                  obtain ⟨-, -, -, g0⟩ := own_ints_at (hLo.now hBj) i (by omega)
                  have hlx : left.getD i 0 = left[i]'(by omega) := by simp [List.getD, List.getElem?_eq_getElem (show i < left.length by omega)]
                  rw [← hlx] at g0
                  have j3 : (0 : Int) ≤ (i : Int) := by omega
                  have j4 : (i : Int) < (n : Int) := by omega
                  have wi : IntKind.i64.wrap ((i : Int) - 1) = (i : Int) - 1 := IntWalk.i64_in _ (by omega)
                  clear hlx hjp
                  by_cases hp1 : 0 < left.getD i 0
                  · have q8 : decide (0 < left.getD i 0) = true := decide_eq_true hp1
                    have hS2 : Hid (pkF n (fun e => decide (0 < left.getD e 0) && enB gp m (e : Int)) i = if enB gp m (i : Int) = true then (i : Int) else pkF n (fun e => decide (0 < left.getD e 0) && enB gp m (e : Int)) (i + 1)) := by
                      show _ = _
                      rw [hS.out, q8, Bool.true_and]
                    generalize left.getD i 0 = x at *
                    generalize pkF n (fun e => decide (0 < left.getD e 0) && enB gp m (e : Int)) (i + 1) = pn at *
                    go_wp2_with fail
                    refine (spec_l17Enabled _ _ _ _ _ _ _ (h0r.now hBj) (hM.lst.now hBj) hml.out (okMarking_pos hm.out)).mono ?_
                    rintro e w5 ⟨rfl, hB5⟩
                    have hBj5 := hBj.trans (hB5.mono hBj.size)
                    cases hen : enB gp m (i : Int)
                    · have hS3 : Hid (pkF n (fun e => decide (0 < left.getD e 0) && enB gp m (e : Int)) i = pn) := by show _ = _; rw [hS2.out, hen]; rfl
                      clear hen
                      go_wp2
                      exact ⟨⟨i, by omega, rfl, by rw [hS3.out], hBj5⟩, by simp [intOf]⟩
                    · have hS3 : Hid (pkF n (fun e => decide (0 < left.getD e 0) && enB gp m (e : Int)) i = (i : Int)) := by show _ = _; rw [hS2.out, hen]; rfl
                      clear hen
                      go_wp2
                      exact ⟨⟨i, by omega, rfl, by rw [hS3.out], hBj5⟩, by simp [intOf]⟩
                  · have q8 : decide (0 < left.getD i 0) = false := decide_eq_false hp1
                    have hS2 : Hid (pkF n (fun e => decide (0 < left.getD e 0) && enB gp m (e : Int)) i = pkF n (fun e => decide (0 < left.getD e 0) && enB gp m (e : Int)) (i + 1)) := by
                      show _ = _
                      rw [hS.out, q8, Bool.false_and]
                      rfl
                    generalize left.getD i 0 = x at *
                    clear hp1
                    go_wp2
                    exact ⟨⟨i, by omega, rfl, by rw [hS2.out], hBj⟩, by simp [intOf]⟩
                · obtain rfl : j = 0 := by omega
                  have hB5 := hBj
                  have hs5 := hB5.size
                  rw [hP0.out]
                  obtain ⟨w5, hw5⟩ : ∃ x, x = wr := ⟨_, rfl⟩
                  subst hw5
                  have q7 : decide ((0 : Int) ≤ ((0 : Nat) : Int) - 1) = false := by decide
                  cases hp : pickF n gp left m with
                  | none =>
                    have hE' : Hid (seqForF n gp l = ([], 5)) := by show _ = _; rw [hE.out, ← hR.out]; exact sfF_none (by omega) hp
                    clear hp
                    go_wp2
                    go_ret2
                    exact RetOwnI.of hE'.out ⟨_, rfl, Own.nil, hW.trans ((hB.trans (hB5.mono hs)).mono hs1)⟩
                  | some e =>
                    obtain ⟨hen, hge0, henb⟩ := pick_in hp
                    have q3 : decide ((e : Int) < 0) = false := by simp
                    have hbr5 := hbr.now hB5
                    have hpH := Lib.hid hp
                    clear hp
                    go_wp2_with fail
                    refine (spec_l17Fire _ n _ _ _ _ _ (h0r.now hB5) (hM.now hB5).lst hg' hm hgl).mono ?_
                    rintro e6 w6 ⟨mx, rfl, hMx, hB6⟩
                    have hB56 := hB5.trans (hB6.mono hs5)
                    have hBt := hB.trans (hB56.mono hs)
                    have hbr6 := hbr5.now hB6
                    cases hmk : okMarking gp (fireM gp m e)
                    · have hE' : Hid (seqForF n gp l = ([], 3)) := by show _ = _; rw [hE.out, ← hR.out]; exact sfF_bad (by omega) hpH.out hmk
                      clear hmk hMx
                      go_wp2
                      go_ret2
                      exact RetOwnI.of hE'.out ⟨_, rfl, Own.nil, hW.trans (hBt.mono hs1)⟩
                    · have hmk' := Lib.hid hmk
                      have hgo := Lib.hid (hR.out.symm.trans (sfF_go (out := out) hposH.out (by omega) hpH.out hmk))
                      have hst := hLk.out.step e hge0
                      have hst' := Lib.hid hst
                      have hsum' := sumI_set left e (left.getD e 0 - 1) (by omega)
                      have hsumH : Hid (((out ++ [(e : Int)]).length : Int) + sumI (left.set e (left.getD e 0 - 1)) ≤ 100) := by
                        show _ ≤ _
                        rw [hsum']
                        have := hsum.out
                        simp only [List.length_append, List.length_cons, List.length_nil]
                        omega
                      have hlx : left.getD e 0 = left[e]'(by omega) := by simp [List.getD, List.getElem?_eq_getElem (show e < left.length by omega)]
                      have hlb := hLk.out.bd _ (List.getElem_mem (show e < left.length by omega))
                      have hol := hsum.out
                      clear hmk hst hsum'
                      have hL6 := hLo.now hB56
                      obtain ⟨hg1, hg2, hgf, g0⟩ := own_ints_at hL6 e (by omega)
                      rw [← hlx] at g0 hlb
                      have hO6 := (hO.now hB56).far (p := ⟨g, e, none⟩) (show g < lb by omega) (.int .i64 (left.getD e 0 - 1))
                      have hM6 := hMx.far (p := ⟨g, e, none⟩) (show g < w5.heap.size by omega) (.int .i64 (left.getD e 0 - 1))
                      have hLs := hL6.set1 e (by omega) (left.getD e 0 - 1)
                      have hBs := hBt.setCell (p := ⟨g, e, none⟩) hgb (.int .i64 (left.getD e 0 - 1))
                      have hlen : out.length + [(e : Int)].length ≤ 1099511627776 := by simp; omega
                      have hLL : Hid ((out ++ [(e : Int)]).length = out.length + 1) := by show _ = _; simp
                      have hoB : Hid (∀ k, (Value.slice Y out.length cy).ownBlock = some k → lb ≤ k ∧ k < wo.heap.size) := fun k hk => hO.lt k hk
                      have hmB : Hid (∀ k, mx.ownBlock = some k → w5.heap.size ≤ k ∧ k < w6.heap.size) := fun k hk => hMx.lt k hk
                      have hs6 := hB6.size
                      have j3 : (0 : Int) ≤ (e : Int) := by omega
                      have j4 : (e : Int) < (n : Int) := by omega
                      generalize left.getD e 0 = x at *
                      have wx : IntKind.i64.wrap (x - 1) = x - 1 := IntWalk.i64_in _ (by omega)
                      clear hLo hO hMx hM hlx
                      go_wp2_with (at_builtin; refine wpList_append_lst rfl _ _ 27 rfl intCell 1 intCell_one (by omega) lb 2 _ 8 Try.underlying27 info_i64 rfl _ _ rfl (hO6.alloc _) _ _ _ _ [(e : Int)] rfl (lst_new1 _ _ intCell_len _ _ _ _ rfl _ (by simp)) hlen (by omega) (by simp <;> omega) ?_; intro v' w7 hO1 hG1 hD1; obtain ⟨V1, cv1, rfl⟩ := own_shape_n hO1 hLL.out)
                      have hG2 : ((w6.setCell ⟨g, e, none⟩ (.int .i64 (x - 1))).alloc (.cells #[.int .i64 (e : Nat)] 2)).grownBy w7 (Value.slice Y out.length cy).ownBlock := hG1
                      have hD2 : (Value.slice V1 (out.length + 1) cv1).ownBlock = (Value.slice Y out.length cy).ownBlock ∨ (Value.slice V1 (out.length + 1) cv1).ownBlock = some ((w6.setCell ⟨g, e, none⟩ (.int .i64 (x - 1))).alloc (.cells #[.int .i64 (e : Nat)] 2)).heap.size := hD1
                      clear hG1 hD1
                      have hM7 := own_kept (hM6.alloc (.cells #[.int .i64 (e : Nat)] 2)) hG2 (fun k a b => by have q1 := (hmB.out k a).1; have q2 := (hoB.out k b).2; omega)
                      have hL7 := own_kept (hLs.alloc (.cells #[.int .i64 (e : Nat)] 2)) hG2 (fun k a b => by have q2 := (hoB.out k b).1; have a2 : g = k := (by injection a); omega)
                      have hB7 := below_app (hBs.alloc (by simp; omega) (.cells #[.int .i64 (e : Nat)] 2)) (by simp; omega) hG2 (hO6.alloc _) (show w1.heap.size ≤ lb by omega)
                      have hdis' : Hid (∀ k, mx.ownBlock = some k → (Value.slice V1 (out ++ [(e : Int)]).length cv1).ownBlock = some k → False) := by
                        intro k a b
                        rw [hLL.out] at b
                        have q1 := hmB.out k a
                        rcases hD2 with h | h
                        · rw [h] at b
                          have q2 := (hoB.out k b).2
                          omega
                        · rw [h] at b
                          injection b with b
                          simp at b
                          omega
                      exact ⟨⟨_, _, out ++ [(e : Int)], V1, cv1, by rw [hLL.out], hst', hmk', hsumH, hgo.out.symm, hM7.rebase (by omega), by rw [hLL.out]; exact hO1, hdis', hL7, hB7, Nat.le_trans (show lb ≤ ((w6.setCell ⟨g, e, none⟩ (.int .i64 (x - 1))).alloc (.cells #[.int .i64 (e : Nat)] 2)).heap.size by simp; omega) hG2.size⟩, by simp [lenV]; omega⟩
            · have q0 : decide (0 < sumI left) = false := decide_eq_false hpos
              have hE' : Hid (seqForF n gp l = (out, 0)) := by
                show _ = _
                rw [hE.out, ← hR.out, show (sumI left).toNat = 0 by omega]
                rfl
              clear hpos
              go_wp2_with (go_at_call 87; refine (spec_l16Sum _ _ _ hLo.lst (Lib.hid hLk.out.bd) (by omega)).mono ?_; rintro e w' ⟨rfl, rfl⟩)
              go_ret2
              exact RetOwnI.of hE'.out ⟨_, rfl, hO.rebase (by omega), hW.trans (hB.mono hs1)⟩
        · have q2 : decide (100 < sumI l) = true := by simp; omega
          have hE := Lib.hid (hbad.out (by simp [hsm]))
          clear hbad hsm
          go_wp2_with (first | (go_at_call 86; refine (spec_l01Within _ _ _ _ _ _ h1).mono ?_; rintro e w' ⟨rfl, rfl⟩; rw [hin, q5.out]) | (go_at_call 87; refine (spec_l16Sum _ _ _ h1 hbd (by have := hlnH.out; omega)).mono ?_; rintro e w' ⟨rfl, rfl⟩))
          go_ret2
          exact RetOwnI.of hE.out ⟨_, rfl, Own.nil, hW⟩
    · have q1 : ((l.length : Int) != (n : Int)) = true := by simp; omega
      have hE := Lib.hid (hbad.out (by
        have : decide ((l.length : Int) = (n : Int)) = false := by simp; omega
        simp [this]))
      clear hbad
      go_wp2
      go_ret2
      exact RetOwnI.of hE.out ⟨_, rfl, Own.nil, hW⟩
end Go.Proofs.Ytilfjfjoppecgaa
