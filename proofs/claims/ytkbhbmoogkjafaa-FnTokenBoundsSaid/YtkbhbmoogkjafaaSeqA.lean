/-
  FireSequence, the program's and the reference's.
-/
import Derived.Test.YtkbhbmoogkjafaaSeq
namespace Go.Proofs.Ytkbhbmoogkjafaa
open Go.RowKit
set_option linter.unusedVariables false
set_option linter.unusedSimpArgs false

set_option maxHeartbeats 4000000 in
set_option maxRecDepth 100000 in
theorem impl_FireSequence (v : Value) (ge : Int) (gp : List Place) (u : Value) (l : List Int) (w : World) (h0 : Lst Place.cells 4 w w.heap.size v gp) (h1 : Lst intCell 1 w w.heap.size u l) :
    Calls Try.prog 39 #[.agg #[.int .i64 ge, v], u] w (RetOwnI intCell 1 2 w (fireSeqF ge gp l).1 (fireSeqF ge gp l).2) := by
  obtain ⟨A, c, rfl⟩ := h0.shape
  obtain ⟨C, d, rfl⟩ := h1.shape
  have hmax := h1.len_le
  go_enter Try.func39, Try.ntmps39
  go_wp2_with fail
  have hW : Below w.heap.size w (w.alloc (.cells #[.int .i64 ge, .slice A gp.length c] 26)) := (Below.refl _ _).alloc (Nat.le_refl _) _; have hb0 : Blk (w.alloc (.cells #[.int .i64 ge, .slice A gp.length c] 26)) w.heap.size 26 #[.int .i64 ge, .slice A gp.length c] := Blk.new _ _ _; replace h0 := h0.now hW; replace h1 := h1.now hW; generalize (w.alloc (.cells #[.int .i64 ge, .slice A gp.length c] 26)) = W at *
  refine (impl_IsEventGraph _ _ _ _ h0).mono ?_
  rintro e w1 ⟨rfl, hB⟩
  replace hW := hW.trans (hB.mono hW.size); replace h0 := h0.now hB; replace h1 := h1.now hB; replace hb0 := hb0.now hB
  obtain ⟨k0, k1⟩ := hb0.c2
  clear hB
  cases hg : okGraph ge gp
  · have hE : Hid (fireSeqF ge gp l = ([], 1)) := by show _ = _; simp [fireSeqF, hg]
    clear hg
    go_wp2
    go_ret2
    exact RetOwnI.of hE.out ⟨_, rfl, Own.nil, hW⟩
  · obtain ⟨hge1, hge2⟩ := okGraph_ev hg
    have hgl := okGraph_len hg
    obtain ⟨n, rfl⟩ := Int.eq_ofNat_of_zero_le (show 0 ≤ ge by omega)
    have hg' := Lib.hid hg
    clear hg
    by_cases h100 : l.length ≤ 100
    · have q1 : decide (100 < (l.length : Int)) = false := by simp; omega
      cases hin : allB l 0 ((n : Int) - 1)
      · have hE : Hid (fireSeqF n gp l = ([], 2)) := by show _ = _; simp [fireSeqF, hg'.out, hin]
        go_wp2_with (go_at_call 135; refine (impl_allWithin _ _ _ _ _ h1).mono ?_; rintro e w' ⟨rfl, rfl⟩)
        go_ret2
        exact RetOwnI.of hE.out ⟨_, rfl, Own.nil, hW⟩
      · have hE : Hid (fireSeqF n gp l = seqF n gp (firstF gp) l) := by show _ = _; simp [fireSeqF, hg'.out, hin, h100]
        have hin' := Lib.hid hin
        go_wp2_with (go_at_call 135; refine (impl_allWithin _ _ _ _ _ h1).mono ?_; rintro e w' ⟨rfl, rfl⟩)
        clear hin
        refine (impl_firstMarking _ _ _ _ h0 hgl).mono ?_
        rintro e w2 ⟨x, rfl, hO0, hB⟩
        have hm0 := Lib.hid (firstF_ok hg'.out)
        go_wp2
        have hs1 := hW.size
        go_loopw [6, 8, 9, 10, 29] (fun mv _ _ _ i wr => ∃ (k : Nat) (m : List Int), k ≤ l.length ∧ i = .int .i64 k ∧ Own intCell 1 2 wr w1.heap.size mv m ∧ Hid (okMarking gp m = true) ∧ Hid (seqF n gp (firstF gp) l = seqF n gp m (l.drop k)) ∧ Below w1.heap.size w1 wr) (fun _ _ _ _ i _ => l.length - (intOf i).toNat)
        case atStart => exact ⟨0, _, Nat.zero_le _, rfl, hO0, hm0, rfl, hB⟩
        case round =>
          clear hO0 hB hm0
          obtain ⟨k, m, hk, rfl, hO, hm, hS, hB⟩ := hrel
          have hs := hB.size
          obtain ⟨k0, k1⟩ := (hb0.now hB).c2
          have l0 := (hb0.now hB).lt
          by_cases hlt : k < l.length
          · obtain ⟨b, off, hb1, hb, d0⟩ := ints_at (h1.now hB) k hlt
            cases hb1
            go_wp2_with fail
            refine (impl_fired _ n _ _ _ _ _ (h0.now hB) hO.lst hm (by omega) hgl).mono ?_
            rintro e w4 ⟨y, rfl, hOy, hBy⟩
            have hBt := hB.trans (hBy.mono hs)
            by_cases hz : (firedF n gp m l[k]).2 = 0
            · have hm' := Lib.hid (firedF_zero hz)
              have hS' := Lib.hid (hS.out.trans (seqF_go n gp m l k hlt hz))
              clear hS hm hO
              generalize firedF n gp m l[k] = F at *
              have q2 : (F.2 != 0) = false := by simp [hz]
              clear hz
              go_wp2
              go_roundw
              case rel => exact ⟨k + 1, _, hlt, by go_num, hOy.rebase hs, hm', hS', hBt⟩
              case measure => simp [intOf]; omega
            · have hS' := Lib.hid (hE.out.trans (hS.out.trans (seqF_stop n gp m l k hlt hz)))
              clear hS hm hO hE
              generalize firedF n gp m l[k] = F at *
              have q2 : (F.2 != 0) = true := by simpa using hz
              clear hz
              go_wp2
              go_ret2
              exact RetOwnI.of hS'.out ⟨_, rfl, Own.nil, hW.trans (hBt.mono hs1)⟩
          · obtain rfl : k = l.length := by omega
            have hF : Hid (fireSeqF n gp l = (m, 0)) := by show _ = _; rw [hE.out, hS.out, List.drop_length]; rfl
            go_wp2
            go_ret2
            exact RetOwnI.of hF.out ⟨_, rfl, hO.rebase hs1, hW.trans (hB.mono hs1)⟩
    · have q1 : decide (100 < (l.length : Int)) = true := by simp; omega
      have hE : Hid (fireSeqF n gp l = ([], 2)) := by show _ = _; simp [fireSeqF, hg'.out, h100]
      go_wp2
      go_ret2
      exact RetOwnI.of hE.out ⟨_, rfl, Own.nil, hW⟩
set_option maxHeartbeats 4000000 in
set_option maxRecDepth 100000 in
theorem spec_FireSequence (v : Value) (ge : Int) (gp : List Place) (u : Value) (l : List Int) (w : World) (h0 : Lst Place.cells 4 w w.heap.size v gp) (h1 : Lst intCell 1 w w.heap.size u l) :
    Calls Try.prog 40 #[.agg #[.int .i64 ge, v], u] w (RetOwnI intCell 1 2 w (fireSeqF ge gp l).1 (fireSeqF ge gp l).2) := by
  obtain ⟨A, c, rfl⟩ := h0.shape
  obtain ⟨C, d, rfl⟩ := h1.shape
  have hmax := h1.len_le
  go_enter Try.func40, Try.ntmps40
  go_wp2_with fail
  have hW : Below w.heap.size w (w.alloc (.cells #[.int .i64 ge, .slice A gp.length c] 26)) := (Below.refl _ _).alloc (Nat.le_refl _) _; have hb0 : Blk (w.alloc (.cells #[.int .i64 ge, .slice A gp.length c] 26)) w.heap.size 26 #[.int .i64 ge, .slice A gp.length c] := Blk.new _ _ _; replace h0 := h0.now hW; replace h1 := h1.now hW; generalize (w.alloc (.cells #[.int .i64 ge, .slice A gp.length c] 26)) = W at *
  refine (spec_IsEventGraph _ _ _ _ h0).mono ?_
  rintro e w1 ⟨rfl, hB⟩
  replace hW := hW.trans (hB.mono hW.size); replace h0 := h0.now hB; replace h1 := h1.now hB; replace hb0 := hb0.now hB
  obtain ⟨k0, k1⟩ := hb0.c2
  clear hB
  cases hg : okGraph ge gp
  · have hE : Hid (fireSeqF ge gp l = ([], 1)) := by show _ = _; simp [fireSeqF, hg]
    clear hg
    go_wp2
    go_ret2
    exact RetOwnI.of hE.out ⟨_, rfl, Own.nil, hW⟩
  · obtain ⟨hge1, hge2⟩ := okGraph_ev hg
    have hgl := okGraph_len hg
    obtain ⟨n, rfl⟩ := Int.eq_ofNat_of_zero_le (show 0 ≤ ge by omega)
    have hg' := Lib.hid hg
    clear hg
    cases hin : (allB l 0 ((n : Int) - 1) && decide ((l.length : Int) ≤ 100))
    · have hE : Hid (fireSeqF n gp l = ([], 2)) := by
        show _ = _
        have : (decide (l.length ≤ 100) && allB l 0 ((n : Int) - 1)) = false := by
          rw [Bool.and_comm, ← hin]
          congr 1
          simp only [decide_eq_decide]
          omega
        simp only [fireSeqF, hg'.out, this, Bool.true_eq_false, if_false, if_true]
      go_wp2_with (go_at_call 133; refine (spec_l01Within _ _ _ _ _ _ h1).mono ?_; rintro e w' ⟨rfl, rfl⟩; rw [hin])
      go_ret2
      exact RetOwnI.of hE.out ⟨_, rfl, Own.nil, hW⟩
    · have hE : Hid (fireSeqF n gp l = seqF n gp (firstF gp) l) := by
        show _ = _
        have : (decide (l.length ≤ 100) && allB l 0 ((n : Int) - 1)) = true := by
          rw [Bool.and_comm, ← hin]
          congr 1
          simp only [decide_eq_decide]
          omega
        simp only [fireSeqF, hg'.out, this, Bool.true_eq_false, if_false, Int.toNat_natCast]
      have hin2 := hin
      simp only [Bool.and_eq_true] at hin2
      have hall : Hid (∀ k (h : k < l.length), inB l[k] 0 ((n : Int) - 1) = true) := fun k h => List.all_eq_true.1 hin2.1 _ (List.getElem_mem h)
      go_wp2_with (go_at_call 133; refine (spec_l01Within _ _ _ _ _ _ h1).mono ?_; rintro e w' ⟨rfl, rfl⟩; rw [hin])
      clear hin hin2
      refine (spec_l17First _ _ _ _ h0 hgl).mono ?_
      rintro e w2 ⟨x, rfl, hO0, hB⟩
      have hm0 := Lib.hid (firstF_ok hg'.out)
      go_wp2
      have hs1 := hW.size
      go_loopw [6, 7, 8, 9] (fun mv i _ _ wr => ∃ (k : Nat) (m : List Int), k ≤ l.length ∧ i = .int .i64 k ∧ Own intCell 1 2 wr w1.heap.size mv m ∧ Hid (okMarking gp m = true) ∧ Hid (seqF n gp (firstF gp) l = seqF n gp m (l.drop k)) ∧ Below w1.heap.size w1 wr) (fun _ i _ _ _ => l.length - (intOf i).toNat)
      case atStart => exact ⟨0, _, Nat.zero_le _, rfl, hO0, hm0, rfl, hB⟩
      case round =>
        clear hO0 hB hm0
        obtain ⟨k, m, hk, rfl, hO, hm, hS, hB⟩ := hrel
        have hs := hB.size
        obtain ⟨k0, k1⟩ := (hb0.now hB).c2
        have l0 := (hb0.now hB).lt
        by_cases hlt : k < l.length
        · obtain ⟨b, off, hb1, hb, d0⟩ := ints_at (h1.now hB) k hlt
          cases hb1
          have hfe : Hid (fireF n gp m l[k] = firedF n gp m l[k]) := by show _ = _; simp [fireF, hg'.out, hm.out, hall.out k hlt]
          obtain ⟨M, cm, rfl⟩ := hO.shape
          go_wp2_with fail
          refine wp_region_held_drew (S := fun w' => w'.cell? ⟨w.heap.size, 0, none⟩ = some (.int .i64 n) ∧ w'.cell? ⟨w.heap.size, 1, none⟩ = some (.slice A gp.length c) ∧ w'.cell? ⟨b, off + k, none⟩ = some (.int .i64 l[k])) (by kernel_rfl) ⟨k0, k1, d0⟩ (fun hH => ?_)
          refine wpAnyH_take (i := 0) (oi := { dst := _, op := _, type := _, pos := _, after := _, guard := _ }) (v := ?_) rfl (by kernel_rfl) (by kernel_rfl) (by kernel_rfl) (fun _ _ _ h => h) (Or.inl ⟨by rfl, ?_⟩) hH ?_
          rotate_left
          · intro w9 hSw
            try dsimp only at hSw
            obtain ⟨s0, s1, s2⟩ := hSw
            go_simp
            try with_reducible rfl
          try simp only [Act.put, List.setIfInBounds_toArray, List.set_cons_zero, List.set_cons_succ]
          refine wpAnyH_take (i := 1) (oi := { dst := _, op := _, type := _, pos := _, after := _, guard := _ }) (v := ?_) rfl (by kernel_rfl) (by kernel_rfl) (by kernel_rfl) (fun _ _ _ h => h) (Or.inl ⟨by rfl, ?_⟩) hH ?_
          rotate_left
          · intro w9 hSw
            try dsimp only at hSw
            obtain ⟨s0, s1, s2⟩ := hSw
            go_simp
            try with_reducible rfl
          try simp only [Act.put, List.setIfInBounds_toArray, List.set_cons_zero, List.set_cons_succ]
          refine wpAnyH_take (i := 2) (oi := { dst := _, op := _, type := _, pos := _, after := _, guard := _ }) (v := ?_) rfl (by kernel_rfl) (by kernel_rfl) (by kernel_rfl) (fun _ _ _ h => h) (Or.inl ⟨by rfl, ?_⟩) hH ?_
          rotate_left
          · intro w9 hSw
            try dsimp only at hSw
            obtain ⟨s0, s1, s2⟩ := hSw
            go_simp
            try with_reducible rfl
          try simp only [Act.put, List.setIfInBounds_toArray, List.set_cons_zero, List.set_cons_succ]
          refine wpAnyH_take (i := 3) (oi := { dst := _, op := _, type := _, pos := _, after := _, guard := _ }) (v := ?_) rfl (by kernel_rfl) (by kernel_rfl) (by kernel_rfl) (fun _ _ _ h => h) (Or.inl ⟨by rfl, ?_⟩) hH ?_
          rotate_left
          · intro w9 hSw
            try dsimp only at hSw
            obtain ⟨s0, s1, s2⟩ := hSw
            go_simp
            try with_reducible rfl
          try simp only [Act.put, List.setIfInBounds_toArray, List.set_cons_zero, List.set_cons_succ]
          refine wpAnyH_take (i := 4) (oi := { dst := _, op := _, type := _, pos := _, after := _, guard := _ }) (v := ?_) rfl (by kernel_rfl) (by kernel_rfl) (by kernel_rfl) (fun _ _ _ h => h) (Or.inl ⟨by rfl, ?_⟩) hH ?_
          rotate_left
          · intro w9 hSw
            try dsimp only at hSw
            obtain ⟨s0, s1, s2⟩ := hSw
            go_simp
            try with_reducible rfl
          try simp only [Act.put, List.setIfInBounds_toArray, List.set_cons_zero, List.set_cons_succ]
          refine wpAnyH_take (i := 5) (oi := { dst := _, op := _, type := _, pos := _, after := _, guard := _ }) (v := ?_) rfl (by kernel_rfl) (by kernel_rfl) (by kernel_rfl) (fun _ _ _ h => h) (Or.inl ⟨by rfl, ?_⟩) hH ?_
          rotate_left
          · intro w9 hSw
            try dsimp only at hSw
            obtain ⟨s0, s1, s2⟩ := hSw
            go_simp
            try with_reducible rfl
          try simp only [Act.put, List.setIfInBounds_toArray, List.set_cons_zero, List.set_cons_succ]
          refine wpAnyH_ready (rs := [6]) (by kernel_rfl) (by simp) ?_
          refine AllReadyH.cons rfl (fun K hK => ?_) AllReadyH.nil
          go_simp
          go_at_call 32
          refine (spec_FireEvent _ _ _ _ _ _ wr.drew ((h0.now hB).now (Below.drew (Below.refl _ wr))) (hO.lst.now (Below.drew (Below.refl _ wr)))).mono ?_
          rintro e5 w4 ⟨y, rfl, hOy, hBy⟩
          rw [hfe.out]
          have k0a := cell_keep (w := wr.drew) k0 hBy
          have k1a := cell_keep (w := wr.drew) k1 hBy
          have d0a := cell_keep (w := wr.drew) d0 hBy
          refine hK.out _ _ ⟨k0a, k1a, d0a⟩ (fun hH => ?_)
          clear hK K
          try simp only [Act.put, List.setIfInBounds_toArray, List.set_cons_zero, List.set_cons_succ]
          refine wpAnyH_take (i := 7) (oi := { dst := _, op := _, type := _, pos := _, after := _, guard := _ }) (v := ?_) rfl (by kernel_rfl) (by kernel_rfl) (by kernel_rfl) (fun _ _ _ h => h) (Or.inl ⟨by rfl, ?_⟩) hH ?_
          rotate_left
          · intro w9 hSw
            try dsimp only at hSw
            obtain ⟨s0, s1, s2⟩ := hSw
            go_simp
            try with_reducible rfl
          try simp only [Act.put, List.setIfInBounds_toArray, List.set_cons_zero, List.set_cons_succ]
          refine wpAnyH_take (i := 8) (oi := { dst := _, op := _, type := _, pos := _, after := _, guard := _ }) (v := ?_) rfl (by kernel_rfl) (by kernel_rfl) (by kernel_rfl) (fun _ _ _ h => h) (Or.inl ⟨by rfl, ?_⟩) hH ?_
          rotate_left
          · intro w9 hSw
            try dsimp only at hSw
            obtain ⟨s0, s1, s2⟩ := hSw
            go_simp
            try with_reducible rfl
          try simp only [Act.put, List.setIfInBounds_toArray, List.set_cons_zero, List.set_cons_succ]
          refine wpAnyH_take (i := 9) (oi := { dst := _, op := _, type := _, pos := _, after := _, guard := _ }) (v := ?_) rfl (by kernel_rfl) (by kernel_rfl) (by kernel_rfl) (fun _ _ _ h => h) (Or.inl ⟨by rfl, ?_⟩) hH ?_
          rotate_left
          · intro w9 hSw
            try dsimp only at hSw
            obtain ⟨s0, s1, s2⟩ := hSw
            go_simp
            try with_reducible rfl
          try simp only [Act.put, List.setIfInBounds_toArray, List.set_cons_zero, List.set_cons_succ]
          refine wpAnyH_take (i := 10) (oi := { dst := _, op := _, type := _, pos := _, after := _, guard := _ }) (v := ?_) rfl (by kernel_rfl) (by kernel_rfl) (by kernel_rfl) (fun _ _ _ h => h) (Or.inl ⟨by rfl, ?_⟩) hH ?_
          rotate_left
          · intro w9 hSw
            try dsimp only at hSw
            obtain ⟨s0, s1, s2⟩ := hSw
            go_simp
            try with_reducible rfl
          try simp only [Act.put, List.setIfInBounds_toArray, List.set_cons_zero, List.set_cons_succ]
          refine wpAnyH_take (i := 11) (oi := { dst := _, op := _, type := _, pos := _, after := _, guard := _ }) (v := ?_) rfl (by kernel_rfl) (by kernel_rfl) (by kernel_rfl) (fun _ _ _ h => h) (Or.inl ⟨by rfl, ?_⟩) hH ?_
          rotate_left
          · intro w9 hSw
            try dsimp only at hSw
            obtain ⟨s0, s1, s2⟩ := hSw
            go_simp
            try with_reducible rfl
          try simp only [Act.put, List.setIfInBounds_toArray, List.set_cons_zero, List.set_cons_succ]
          refine wpAnyH_done (by kernel_rfl) ?_ _
          have hBt := hB.trans (((Below.refl _ wr).drew.trans hBy).mono hs)
          by_cases hz : (firedF n gp m l[k]).2 = 0
          · have hm' := Lib.hid (firedF_zero hz)
            have hS' := Lib.hid (hS.out.trans (seqF_go n gp m l k hlt hz))
            rw [hfe.out] at hOy
            clear hS hm hO hfe
            generalize firedF n gp m l[k] = F at *
            have q2 : (F.2 != 0) = false := by simp [hz]
            clear hz
            go_wp2
            go_roundw
            case rel => exact ⟨k + 1, _, hlt, by go_num, hOy.rebase hs, hm', hS', hBt⟩
            case measure => simp [intOf]; omega
          · have hS' := Lib.hid (hE.out.trans (hS.out.trans (seqF_stop n gp m l k hlt hz)))
            clear hS hm hO hE hOy hfe
            generalize firedF n gp m l[k] = F at *
            have q2 : (F.2 != 0) = true := by simpa using hz
            clear hz
            go_wp2
            go_ret2
            exact RetOwnI.of hS'.out ⟨_, rfl, Own.nil, hW.trans (hBt.mono hs1)⟩
        · obtain rfl : k = l.length := by omega
          have hF : Hid (fireSeqF n gp l = (m, 0)) := by show _ = _; rw [hE.out, hS.out, List.drop_length]; rfl
          go_wp2
          go_ret2
          exact RetOwnI.of hF.out ⟨_, rfl, hO.rebase hs1, hW.trans (hB.mono hs1)⟩
end Go.Proofs.Ytkbhbmoogkjafaa
