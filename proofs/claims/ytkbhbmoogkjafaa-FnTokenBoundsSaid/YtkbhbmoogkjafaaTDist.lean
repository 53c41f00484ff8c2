/-
  The walks of TokenDistance, the program's and the reference's.
-/
import Derived.Test.YtkbhbmoogkjafaaFnTokP
namespace Go.Proofs.Ytkbhbmoogkjafaa
open Go.RowKit
set_option linter.unusedVariables false
set_option linter.unusedSimpArgs false
set_option maxHeartbeats 4000000 in
set_option maxRecDepth 100000 in
theorem impl_TokenDistance (v : Value) (ge : Int) (gp : List Place) (f t : Int) (w : World) (h0 : Lst Place.cells 4 w w.heap.size v gp) :
    Calls Try.prog 45 #[.agg #[.int .i64 ge, v], .int .i64 f, .int .i64 t] w fun e w' => e = .returned (.tuple #[.int .i64 (tokD ge gp f t).1, .int .i64 (tokD ge gp f t).2]) ∧ Below w.heap.size w w' := by
  obtain ⟨A, c, rfl⟩ := h0.shape
  have hl := h0.len_le
  go_enter Try.func45, Try.ntmps45
  go_wp2_with fail
  have hW : Below w.heap.size w (w.alloc (.cells #[.int .i64 ge, .slice A gp.length c] 26)) := (Below.refl _ _).alloc (Nat.le_refl _) _; have hb0 : Blk (w.alloc (.cells #[.int .i64 ge, .slice A gp.length c] 26)) w.heap.size 26 #[.int .i64 ge, .slice A gp.length c] := Blk.new _ _ _; replace h0 := h0.now hW; generalize (w.alloc (.cells #[.int .i64 ge, .slice A gp.length c] 26)) = W at *
  refine (impl_IsEventGraph _ _ _ _ h0).mono ?_
  rintro e w1 ⟨rfl, hB⟩
  replace hW := hW.trans (hB.mono hW.size); replace h0 := h0.now hB; replace hb0 := hb0.now hB
  clear hB
  obtain ⟨k0, k1⟩ := hb0.c2
  have l0 := hb0.lt
  cases hg : okGraph ge gp
  · have hE : Hid (tokD ge gp f t = (0, 1)) := by show _ = _; simp [tokD, hg]
    clear hg
    go_wp2
    go_ret2
    exact ⟨ret_ii (congrArg Prod.fst hE.out).symm (congrArg Prod.snd hE.out).symm, hW⟩
  · obtain ⟨hge1, hge2⟩ := okGraph_ev hg
    obtain ⟨n, rfl⟩ := Int.eq_ofNat_of_zero_le (show 0 ≤ ge by omega)
    have hg' := Lib.hid hg
    have hwr : Hid (wrap64 ((n : Int) - 1) = (n : Int) - 1) := IntWalk.wrap64_in _ (by omega)
    go_wp2_with fail
    refine (impl_isEvent _ _ _ _).mono ?_
    rintro e w2 ⟨rfl, hB⟩
    rw [hwr.out]
    replace hW := hW.trans (hB.mono hW.size); replace h0 := h0.now hB; replace hb0 := hb0.now hB
    clear hB k0 k1 l0
    obtain ⟨k0, k1⟩ := hb0.c2
    have l0 := hb0.lt
    cases hf : inB f 0 ((n : Int) - 1)
    · have hE : Hid (tokD n gp f t = (0, 2)) := by show _ = _; simp [tokD, hg, hf]
      clear hg hf
      go_wp2
      go_ret2
      exact ⟨ret_ii (congrArg Prod.fst hE.out).symm (congrArg Prod.snd hE.out).symm, hW⟩
    · go_wp2_with fail
      refine (impl_isEvent _ _ _ _).mono ?_
      rintro e w3 ⟨rfl, hB⟩
      rw [hwr.out]
      replace hW := hW.trans (hB.mono hW.size); replace h0 := h0.now hB; replace hb0 := hb0.now hB
      clear hB k0 k1 l0
      obtain ⟨k0, k1⟩ := hb0.c2
      have l0 := hb0.lt
      cases ht : inB t 0 ((n : Int) - 1)
      · have hE : Hid (tokD n gp f t = (0, 2)) := by show _ = _; simp [tokD, hg, hf, ht]
        clear hg hf ht
        go_wp2
        go_ret2
        exact ⟨ret_ii (congrArg Prod.fst hE.out).symm (congrArg Prod.snd hE.out).symm, hW⟩
      · have hE : Hid (tokD n gp f t = if distD n gp f.toNat t.toNat < 0 then (0, 4) else (distD n gp f.toNat t.toNat, 0)) := by show _ = _; simp [tokD, hg, hf, ht]
        have hfB := (inB_iff _ _ _).1 hf
        have htB := (inB_iff _ _ _).1 ht
        obtain ⟨a, rfl⟩ := Int.eq_ofNat_of_zero_le hfB.1
        obtain ⟨b, rfl⟩ := Int.eq_ofNat_of_zero_le htB.1
        rw [Int.toNat_natCast, Int.toNat_natCast] at hE
        have han : a < n := by omega
        have hbn : b < n := by omega
        have hsm := distD_small hg a b han hbn
        clear hg hf ht
        have i3 : (0 : Int) ≤ (b : Int) := by omega
        have i4 : (b : Int) < (n : Int) := by omega
        clear hfB htB
        go_wp2_with fail
        refine (impl_tokenDistances _ n gp a _ h0 hg' han).mono ?_
        rintro e w4 ⟨v9, rfl, hX, hB⟩
        obtain ⟨g9, c9, rfl, hcell⟩ := dist_at hX b hbn
        have hBt := hW.trans (hB.mono hW.size)
        obtain ⟨x, hx⟩ : ∃ x, distD n gp a b = x := ⟨_, rfl⟩
        have hE2 := hE.out
        rw [hx] at hE2 hcell
        clear hx k0 k1 l0 hE hX hB
        by_cases hneg : x < 0
        · rw [if_pos hneg] at hE2
          have hE3 := Lib.hid hE2
          clear hE2
          go_wp2
          go_ret2
          exact ⟨ret_ii (congrArg Prod.fst hE3.out).symm (congrArg Prod.snd hE3.out).symm, hBt⟩
        · rw [if_neg hneg] at hE2
          have hE3 := Lib.hid hE2
          clear hE2
          go_wp2
          go_ret2
          exact ⟨ret_ii (congrArg Prod.fst hE3.out).symm (congrArg Prod.snd hE3.out).symm, hBt⟩
set_option maxHeartbeats 4000000 in
set_option maxRecDepth 100000 in
theorem spec_TokenDistance (v : Value) (ge : Int) (gp : List Place) (f t : Int) (w : World) (h0 : Lst Place.cells 4 w w.heap.size v gp) :
    Calls Try.prog 46 #[.agg #[.int .i64 ge, v], .int .i64 f, .int .i64 t] w fun e w' => e = .returned (.tuple #[.int .i64 (tokD ge gp f t).1, .int .i64 (tokD ge gp f t).2]) ∧ Below w.heap.size w w' := by
  obtain ⟨A, c, rfl⟩ := h0.shape
  have hl := h0.len_le
  go_enter Try.func46, Try.ntmps46
  go_wp2_with fail
  have hW : Below w.heap.size w (w.alloc (.cells #[.int .i64 ge, .slice A gp.length c] 26)) := (Below.refl _ _).alloc (Nat.le_refl _) _; have hb0 : Blk (w.alloc (.cells #[.int .i64 ge, .slice A gp.length c] 26)) w.heap.size 26 #[.int .i64 ge, .slice A gp.length c] := Blk.new _ _ _; replace h0 := h0.now hW; generalize (w.alloc (.cells #[.int .i64 ge, .slice A gp.length c] 26)) = W at *
  refine (spec_IsEventGraph _ _ _ _ h0).mono ?_
  rintro e w1 ⟨rfl, hB⟩
  replace hW := hW.trans (hB.mono hW.size); replace h0 := h0.now hB; replace hb0 := hb0.now hB
  clear hB
  obtain ⟨k0, k1⟩ := hb0.c2
  have l0 := hb0.lt
  cases hg : okGraph ge gp
  · have hE : Hid (tokD ge gp f t = (0, 1)) := by show _ = _; simp [tokD, hg]
    clear hg
    go_wp2
    go_ret2
    exact ⟨ret_ii (congrArg Prod.fst hE.out).symm (congrArg Prod.snd hE.out).symm, hW⟩
  · obtain ⟨hge1, hge2⟩ := okGraph_ev hg
    obtain ⟨n, rfl⟩ := Int.eq_ofNat_of_zero_le (show 0 ≤ ge by omega)
    have hg' := Lib.hid hg
    have hwr : IntKind.i64.wrap ((n : Int) - 1) = (n : Int) - 1 := IntWalk.i64_in _ (by omega)
    cases hf : inB f 0 ((n : Int) - 1)
    · have hE : Hid (tokD n gp f t = (0, 2)) := by show _ = _; simp [tokD, hg, hf]
      have hfH := Lib.hid hf
      clear hg hf
      go_wp2_with (go_at_call 108; refine (spec_l01In _ _ _ _).mono ?_; rintro e w' ⟨rfl, rfl⟩; rw [hfH.out])
      go_ret2
      exact ⟨ret_ii (congrArg Prod.fst hE.out).symm (congrArg Prod.snd hE.out).symm, hW⟩
    · cases ht : inB t 0 ((n : Int) - 1)
      · have hE : Hid (tokD n gp f t = (0, 2)) := by show _ = _; simp [tokD, hg, hf, ht]
        have hfH := Lib.hid hf
        have htH := Lib.hid ht
        clear hg hf ht
        go_wp2_with (go_at_call 108; refine (spec_l01In _ _ _ _).mono ?_; rintro e w' ⟨rfl, rfl⟩; simp only [hfH.out, htH.out])
        go_ret2
        exact ⟨ret_ii (congrArg Prod.fst hE.out).symm (congrArg Prod.snd hE.out).symm, hW⟩
      · have hE : Hid (tokD n gp f t = if distD n gp f.toNat t.toNat < 0 then (0, 4) else (distD n gp f.toNat t.toNat, 0)) := by show _ = _; simp [tokD, hg, hf, ht]
        have hfB := (inB_iff _ _ _).1 hf
        have htB := (inB_iff _ _ _).1 ht
        have hfH := Lib.hid hf
        have htH := Lib.hid ht
        obtain ⟨a, rfl⟩ := Int.eq_ofNat_of_zero_le hfB.1
        obtain ⟨b, rfl⟩ := Int.eq_ofNat_of_zero_le htB.1
        rw [Int.toNat_natCast, Int.toNat_natCast] at hE
        have han : a < n := by omega
        have hbn : b < n := by omega
        have hsm := distD_small hg a b han hbn
        unfold distD at hE hsm
        clear hg hf ht hfB htB
        go_wp2_with (first | (go_at_call 108; refine (spec_l01In _ _ _ _).mono ?_; rintro e w' ⟨rfl, rfl⟩; simp only [hfH.out, htH.out]) | fail)
        refine (spec_l12Distance _ n gp a b _ h0 hg' han hbn).mono ?_
        rintro e w2 ⟨rfl, hB⟩
        replace hW := hW.trans (hB.mono hW.size); replace h0 := h0.now hB; replace hb0 := hb0.now hB
        clear hB k0 k1 l0
        obtain ⟨sv, hsv⟩ : ∃ sv, itF n (tokF gp) n b a = sv := ⟨_, rfl⟩
        have hE2 := hE.out
        rw [hsv] at hE2 hsm ⊢
        clear hE hsv
        by_cases hneg : sv = bot
        · rw [if_pos hneg, if_pos (by omega)] at hE2
          have hE3 := Lib.hid hE2
          have hq : (sv != bot) = false := by simpa using hneg
          rw [hq]
          clear hE2 hneg hq hsm
          go_wp2
          go_ret2
          exact ⟨ret_ii (congrArg Prod.fst hE3.out).symm (congrArg Prod.snd hE3.out).symm, hW⟩
        · rw [if_neg hneg] at hsm
          have hs0 : sv ≤ 0 := hsm.2.2.resolve_left hneg
          rw [if_neg hneg, if_neg (by omega)] at hE2
          have hE3 := Lib.hid hE2
          have hq : (sv != bot) = true := by simpa using hneg
          rw [hq]
          clear hE2 hneg hq
          go_wp2
          go_ret2
          exact ⟨ret_ii (congrArg Prod.fst hE3.out).symm (congrArg Prod.snd hE3.out).symm, hW⟩
end Go.Proofs.Ytkbhbmoogkjafaa
