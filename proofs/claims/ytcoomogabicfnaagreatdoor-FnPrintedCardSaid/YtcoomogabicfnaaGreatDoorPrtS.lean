/-
  The walks of the reference's PrintText.
-/
import Derived.Test.YtcoomogabicfnaaGreatDoorPrtP
import Derived.Test.YtcoomogabicfnaaGreatDoorInts
import Derived.Test.YtcoomogabicfnaaGreatDoorMore
namespace Go.Proofs.YtcoomogabicfnaaGreatDoor
open Go.RowKit
set_option linter.unusedVariables false
set_option linter.unusedSimpArgs false
theorem nodup_of_find {N : List ByteArray} (h : ∀ j (hj : j < N.length), findStr N N[j] = (j : Int)) : N.Nodup := by
  rw [List.nodup_iff_pairwise_ne, List.pairwise_iff_getElem]
  intro i j hi hj hij he
  have h1 := h i hi
  have h2 := h j hj
  rw [he] at h1
  omega
theorem namesOk_bad {ge : Int} {N : List ByteArray} {k : Nat} (hk : k < N.length) (h : nameOk N[k] = false ∨ findStr N N[k] ≠ (k : Int)) : namesOk ge N = false := by
  cases hn : namesOk ge N with
  | false => rfl
  | true =>
    obtain ⟨_, h1, h2⟩ := namesOk_parts hn
    rcases h with h | h
    · rw [h1 _ (List.getElem_mem hk)] at h
      cases h
    · exact absurd (findStr_at h2 hk) h
theorem namesOk_all {ge : Int} {N : List ByteArray} (h : ∀ j (hj : j < N.length), nameOk N[j] = true ∧ findStr N N[j] = (j : Int)) : namesOk ge N = decide ((N.length : Int) = ge) := by
  have h1 : N.all nameOk = true := by
    rw [List.all_eq_true]
    intro x hx
    obtain ⟨j, hj, rfl⟩ := List.getElem_of_mem hx
    exact (h j hj).1
  have h2 := nodup_of_find (fun j hj => (h j hj).2)
  simp [namesOk, h1, h2]
set_option maxHeartbeats 4000000 in
set_option maxRecDepth 100000 in
theorem spec_l18Names (v : Value) (ge : Int) (u : Value) (N : List ByteArray) (w : World) (h1 : Lst strCell 1 w w.heap.size u N) (hN : Hid (∀ s ∈ N, s.size ≤ maxLen)) :
    Calls Tryz.prog 25 #[.agg #[.int .i64 ge, v], u] w fun e w' => e = .returned (.bool (namesOk ge N)) ∧ Below w.heap.size w w' := by
  obtain ⟨A, c, rfl⟩ := h1.shape
  have hl := h1.len_le
  obtain ⟨T, hT⟩ : ∃ T, namesOk ge N = T := ⟨_, rfl⟩
  rw [hT]
  have hT := Lib.hid hT
  have hBx : Below w.heap.size w (w.alloc (.cells #[.int .i64 ge, v] 26)) := (Below.refl _ _).alloc (Nat.le_refl _) _
  have hbox := Blk.newAt w (t := 26) (cs := #[.int .i64 ge, v]) _ rfl
  have h1' := h1.now hBx
  have hsx : w.heap.size < (w.alloc (.cells #[.int .i64 ge, v] 26)).heap.size := by simp
  go_enter Tryz.func25, Tryz.ntmps25
  go_wp2
  generalize w.alloc (.cells #[.int .i64 ge, v] 26) = W at *
  go_loopw [5] (fun i wr => ∃ k : Nat, k ≤ N.length ∧ i = .int .i64 k ∧ Hid (∀ j (hj : j < k) (hl : j < N.length), nameOk N[j] = true ∧ findStr N N[j] = (j : Int)) ∧ Below W.heap.size W wr) (fun i _ => N.length - (intOf i).toNat)
  case atStart => exact ⟨0, Nat.zero_le _, rfl, fun j hj => absurd hj (by omega), Below.refl _ _⟩
  case round =>
    obtain ⟨k, hk, rfl, hA, hB⟩ := hrel
    by_cases hlt : k < N.length
    · obtain ⟨b, off, rfl, hb, c0⟩ := strs_at h1' k hlt
      replace c0 := cell_keep c0 hB
      have hsz : Hid (N[k].size ≤ maxLen) := hN.out _ (List.getElem_mem hlt)
      have hbad := Lib.hid (fun h => namesOk_bad (ge := ge) hlt h)
      have hgood : Hid (nameOk N[k] = true → findStr N N[k] = (k : Int) → ∀ j (hj : j < k + 1) (hl : j < N.length), nameOk N[j] = true ∧ findStr N N[j] = (j : Int)) := by
        intro a1 a2 j hj hl2
        rcases Nat.lt_or_ge j k with h | h
        · exact hA.out j h hl2
        · obtain rfl : j = k := by omega
          exact ⟨a1, a2⟩
      obtain ⟨x, hx⟩ : ∃ x, N[k] = x := ⟨_, rfl⟩
      rw [hx] at c0 hsz hbad hgood
      have i1 : (0 : Int) ≤ (k : Int) := by omega
      have i2 : (k : Int) < (N.length : Int) := by omega
      obtain ⟨B1, hB1⟩ : ∃ B1, nameOk x = B1 := ⟨_, rfl⟩
      rw [hB1] at hbad hgood
      have hB1H := Lib.hid hB1
      clear hx hB1
      cases B1 with
      | false =>
        have hN0 : Hid (false = T) := (hbad.out (.inl rfl)).symm.trans hT.out
        go_wp2_with (go_at_call 55; refine (spec_IsEventName _ _ hsz).mono ?_; rintro e w9 ⟨rfl, hB9⟩; rw [hB1H.out])
        go_ret
        exact ⟨by rw [← hN0.out]; rfl, hBx.trans ((hB.trans (hB9.mono hB.size)).mono hBx.size)⟩
      | true =>
        go_wp2_with fail
        refine (spec_IsEventName _ _ hsz).mono ?_
        rintro e w9 ⟨rfl, hB9⟩
        rw [hB1H.out]
        replace c0 := cell_keep c0 hB9
        replace hB := hB.trans (hB9.mono hB.size)
        have hL := h1'.now hB
        by_cases hf : findStr N x = (k : Int)
        · have hg2 := Lib.hid (hgood.out (by first | trivial | rfl) hf)
          have hq : (findStr N x != (k : Int)) = false := by simp [hf]
          clear hf hgood
          go_wp2_with (go_at_call 56; refine (spec_l18Find _ _ _ _ hL).mono ?_; rintro e w8 ⟨rfl, rfl⟩)
          go_roundw
          case rel => exact ⟨k + 1, hlt, by go_num, hg2, hB⟩
          case measure => simp [intOf] <;> omega
        · have hN0 : Hid (false = T) := (hbad.out (.inr hf)).symm.trans hT.out
          have hq : (findStr N x != (k : Int)) = true := by simpa using hf
          clear hf hgood
          go_wp2_with (go_at_call 56; refine (spec_l18Find _ _ _ _ hL).mono ?_; rintro e w8 ⟨rfl, rfl⟩)
          go_ret
          exact ⟨by rw [← hN0.out]; rfl, hBx.trans (hB.mono hBx.size)⟩
    · obtain rfl : k = N.length := by omega
      have hfin : Hid (decide ((N.length : Int) = ge) = T) := by
        show _ = _
        rw [← hT.out, namesOk_all (ge := ge) (fun j hj => hA.out j hj hj)]
      have hb2 := hbox.now hB
      obtain ⟨k0, k1⟩ := hb2.c2
      have l0 := hb2.lt
      go_wp2
      go_ret
      exact ⟨by rw [← hfin.out]; first | rfl | (congr 2), hBx.trans (hB.mono hBx.size)⟩
set_option maxHeartbeats 4000000 in
set_option maxRecDepth 100000 in
theorem spec_l18Loop (v : Value) (ge : Int) (gp : List Place) (e : Nat) (w : World) (h0 : Lst Place.cells 4 w w.heap.size v gp) :
    Calls Tryz.prog 26 #[.agg #[.int .i64 ge, v], .int .i64 e] w fun r w' => r = .returned (.int .i64 (loopF gp e)) ∧ Below w.heap.size w w' := by
  obtain ⟨A, c, rfl⟩ := h0.shape
  have hl := h0.len_le
  obtain ⟨T, hT⟩ : ∃ T, loopF gp e = T := ⟨_, rfl⟩
  rw [hT]
  have hT := Lib.hid hT
  have hBx : Below w.heap.size w (w.alloc (.cells #[.int .i64 ge, .slice A gp.length c] 26)) := (Below.refl _ _).alloc (Nat.le_refl _) _
  have hbox := Blk.newAt w (t := 26) (cs := #[.int .i64 ge, .slice A gp.length c]) _ rfl
  have h0' := h0.now hBx
  go_enter Tryz.func26, Tryz.ntmps26
  go_wp2
  generalize w.alloc (.cells #[.int .i64 ge, .slice A gp.length c] 26) = W at *
  go_loopw [5] (fun i wr => ∃ k : Nat, k ≤ gp.length ∧ i = .int .i64 k ∧ Hid (∀ j (hj : j < k) (hl : j < gp.length), selfP e gp[j] = false) ∧ Below W.heap.size W wr) (fun i _ => gp.length - (intOf i).toNat)
  case atStart => exact ⟨0, Nat.zero_le _, rfl, fun j hj => absurd hj (by omega), Below.refl _ _⟩
  case round =>
    obtain ⟨k, hk, rfl, hA, hB⟩ := hrel
    have hb2 := hbox.now hB
    obtain ⟨k0, k1⟩ := hb2.c2
    have l0 := hb2.lt
    by_cases hlt : k < gp.length
    · obtain ⟨b, off, rfl, hb, c0, c1, c2, c3⟩ := places_at h0' k hlt
      replace c0 := cell_keep c0 hB
      replace c1 := cell_keep c1 hB
      have hhit := Lib.hid (fun h => idxP_hit (selfP e) gp k hlt (fun j hj => hA.out j hj (by omega)) h)
      have hmiss : Hid (selfP e gp[k] = false → ∀ j (hj : j < k + 1) (hl : j < gp.length), selfP e gp[j] = false) := by
        intro h j hj hl2
        rcases Nat.lt_or_ge j k with h2 | h2
        · exact hA.out j h2 hl2
        · obtain rfl : j = k := by omega
          exact h
      obtain ⟨p, hp⟩ : ∃ p, gp[k] = p := ⟨_, rfl⟩
      rw [hp] at c0 c1 hhit hmiss
      obtain ⟨ps, pd, pl, pt⟩ := p
      have i1 : (0 : Int) ≤ (k : Int) := by omega
      have i2 : (k : Int) < (gp.length : Int) := by omega
      simp only at c0 c1
      clear c2 c3 hp
      by_cases h1 : ps = (e : Int)
      · have q1 : (ps == (e : Int)) = true := by simpa using h1
        by_cases h2 : pd = (e : Int)
        · have q2 : (pd == (e : Int)) = true := by simpa using h2
          have hF : Hid ((k : Int) = T) := (hhit.out (by simp [selfP, h1, h2])).symm.trans hT.out
          clear h1 h2 hmiss
          go_wp2
          go_ret
          exact ⟨by rw [← hF.out]; rfl, hBx.trans (hB.mono hBx.size)⟩
        · have q2 : (pd == (e : Int)) = false := by simpa using h2
          have hm := Lib.hid (hmiss.out (by simp [selfP, h2]))
          clear h1 h2 hmiss
          go_wp2
          go_roundw
          case rel => exact ⟨k + 1, hlt, by go_num, hm, hB⟩
          case measure => simp [intOf] <;> omega
      · have q1 : (ps == (e : Int)) = false := by simpa using h1
        have hm := Lib.hid (hmiss.out (by simp [selfP, h1]))
        clear h1 hmiss
        go_wp2
        go_roundw
        case rel => exact ⟨k + 1, hlt, by go_num, hm, hB⟩
        case measure => simp [intOf] <;> omega
    · obtain rfl : k = gp.length := by omega
      have hF : Hid ((-1 : Int) = T) := (idxP_miss (selfP e) gp fun j hj => hA.out j hj hj).symm.trans hT.out
      go_wp2
      go_ret
      exact ⟨by rw [← hF.out]; rfl, hBx.trans (hB.mono hBx.size)⟩
set_option maxHeartbeats 16000000 in
set_option maxRecDepth 100000 in
theorem spec_PrintText (v : Value) (ge : Int) (gp : List Place) (u : Value) (N : List ByteArray) (w : World) (h0 : Lst Place.cells 4 w w.heap.size v gp) (h1 : Lst strCell 1 w w.heap.size u N) (hN : Hid (∀ s ∈ N, s.size ≤ maxLen)) :
    Calls Tryz.prog 7 #[.agg #[.int .i64 ge, v], u] w fun r w' => r = .returned (.tuple #[.string (printF ge gp N).1, .int .i64 (printF ge gp N).2]) ∧ Below w.heap.size w w' := by
  obtain ⟨A, c, rfl⟩ := h0.shape
  obtain ⟨NA, nc, rfl⟩ := h1.shape
  obtain ⟨T, C, hT⟩ : ∃ T C, printF ge gp N = (T, C) := ⟨_, _, rfl⟩
  rw [hT]
  have hT := Lib.hid hT
  have hBx : Below w.heap.size w (w.alloc (.cells #[.int .i64 ge, .slice A gp.length c] 26)) := (Below.refl _ _).alloc (Nat.le_refl _) _
  have hbox := Blk.newAt w (t := 26) (cs := #[.int .i64 ge, .slice A gp.length c]) _ rfl
  replace h0 := h0.now hBx
  replace h1 := h1.now hBx
  obtain ⟨k0, k1⟩ := hbox.c2
  have l0 := hbox.lt
  go_enter Tryz.func7, Tryz.ntmps7
  go_wp2_with fail
  generalize w.alloc (.cells #[.int .i64 ge, .slice A gp.length c] 26) = W0 at *
  refine (spec_IsEventGraph _ _ _ _ h0).mono ?_
  rintro e w1 ⟨rfl, hB1⟩
  replace h0 := h0.now hB1
  replace h1 := h1.now hB1
  replace hbox := hbox.now hB1
  replace hB1 := hBx.trans (hB1.mono hBx.size)
  clear k0 k1 l0
  obtain ⟨k0, k1⟩ := hbox.c2
  have l0 := hbox.lt
  cases hq : okGraph ge gp with
  | false =>
    have hF : Hid ((⟨#[]⟩, 1) = (T, C)) := by
      show _ = _
      rw [← hT.out]
      unfold printF
      rw [if_pos hq]
    go_wp2
    go_ret2
    exact ⟨by cases hF.out; rfl, hB1⟩
  | true =>
    have hqH := Lib.hid hq
    clear hq
    go_wp2_with fail
    refine (spec_l18Names _ _ _ _ _ h1 hN).mono ?_
    rintro e w2 ⟨rfl, hB2⟩
    replace h0 := h0.now hB2
    replace h1 := h1.now hB2
    replace hbox := hbox.now hB2
    replace hB2 := hB1.trans (hB2.mono hB1.size)
    clear k0 k1 l0 hB1
    obtain ⟨k0, k1⟩ := hbox.c2
    have l0 := hbox.lt
    cases hn : namesOk ge N with
    | false =>
      have hF : Hid ((⟨#[]⟩, 2) = (T, C)) := by
        show _ = _
        rw [← hT.out]
        unfold printF
        rw [if_neg (by rw [hqH.out]; simp), if_pos hn]
      go_wp2
      go_ret2
      exact ⟨by cases hF.out; rfl, hB2⟩
    | true =>
      have hnH := Lib.hid hn
      have hgE := (namesOk_parts hn).1
      clear hn
      subst hgE
      have hev := okGraph_ev hqH.out
      have hgl := okGraph_len hqH.out
      have hrest : Hid (printF N.length gp N = if (loopsF gp N.length).all (fun i => decide (0 ≤ i)) = false then (⟨#[]⟩, 5) else if 2000 < (printT gp N).size then (⟨#[]⟩, 3) else (printT gp N, 0)) := by
        show _ = _
        unfold printF
        rw [if_neg (by rw [hqH.out]; simp), if_neg (by rw [hnH.out]; simp)]
      have hws := hB2.size
      go_wp2
      go_loopw [6, 7, 8, 9] (fun o uv e _ wr => ∃ k : Nat, k ≤ N.length ∧ e = .int .i64 k ∧ o = .string (outS gp N k) ∧ Hid (∀ j, j < k → 0 ≤ loopF gp j) ∧ Own intCell 1 2 wr w2.heap.size uv (loopsF gp k) ∧ Below w2.heap.size w2 wr) (fun _ _ e _ _ => N.length - (intOf e).toNat)
      case atStart => exact ⟨0, Nat.zero_le _, rfl, rfl, fun j hj => absurd hj (by omega), own_new0 _ _ _ _ _ (Nat.le_refl _), (Below.refl _ _).alloc (Nat.le_refl _) _⟩
      case round =>
        obtain ⟨k, hk, rfl, rfl, hA, hO, hB⟩ := hrel
        have hs := hB.size
        clear k0 k1 l0
        have hbr := hbox.now hB
        obtain ⟨k0, k1⟩ := hbr.c2
        have l0 := hbr.lt
        by_cases hlt : k < N.length
        · have i2 : (k : Int) < (N.length : Int) := by omega
          go_wp2_with fail
          refine (spec_l18Loop _ _ gp k _ (h0.now hB)).mono ?_
          rintro e w3 ⟨rfl, hB3⟩
          replace hO := hO.now hB3
          replace hB := hB.trans (hB3.mono hs)
          replace hs := hB.size
          clear k0 k1 l0 hbr hB3
          by_cases hneg : loopF gp k < 0
          · have hF : Hid ((⟨#[]⟩, 5) = (T, C)) := by
              show _ = _
              rw [← hT.out, hrest.out, if_pos (loops_bad hlt hneg)]
            obtain ⟨lv, hlv⟩ : ∃ lv, loopF gp k = lv := ⟨_, rfl⟩
            rw [hlv] at hneg ⊢
            clear hlv
            go_wp2
            go_ret2
            exact ⟨by cases hF.out; rfl, hB2.trans (hB.mono hws)⟩
          · obtain ⟨i, hi, hil, hpi, _, _⟩ := first_at' (gp := gp) (e := k) (by omega)
            have hstep := outS_succ gp N k
            have hlstep := loopsF_succ gp k
            rw [hpi] at hstep
            rw [hi] at hlstep hneg ⊢
            have hA2 : Hid (∀ j, j < k + 1 → 0 ≤ loopF gp j) := by
              intro j hj
              rcases Nat.lt_or_ge j k with h | h
              · exact hA.out j h
              · obtain rfl : j = k := by omega
                rw [hi]
                omega
            have hul := loopsF_len gp k
            have hosz := outS_size hqH.out (namesOk_parts hnH.out).2.1 k (by omega)
            obtain ⟨nb, no, hNA, hnb, z2⟩ := strs_at (h1.now hB) k hlt
            obtain ⟨pb, po, hPA, hpb, _, _, z3, z4⟩ := places_at (h0.now hB) i hil
            subst hNA hPA
            have hnsz := nameOk_size ((namesOk_parts hnH.out).2.1 _ (List.getElem_mem hlt))
            have hpr := (okGraph_place hqH.out (List.getElem_mem hil)).2.2
            have hgn : N.getD k ⟨#[]⟩ = N[k] := by rw [List.getD_eq_getElem?_getD, List.getElem?_eq_getElem hlt]; rfl
            rw [hgn] at hstep
            obtain ⟨nm, hnm⟩ : ∃ nm, N[k] = nm := ⟨_, rfl⟩
            obtain ⟨p, hp⟩ : ∃ p, gp[i] = p := ⟨_, rfl⟩
            rw [hnm] at z2 hnsz hstep
            rw [hp] at z3 z4 hpr hstep
            have hnmH := Lib.hid hnm
            have hpH := Lib.hid hp
            obtain ⟨ps, pd, pdl, pt⟩ := p
            simp only at z3 z4 hpr
            obtain ⟨dn, rfl⟩ := Int.eq_ofNat_of_zero_le hpr.1.1
            obtain ⟨tn, rfl⟩ := Int.eq_ofNat_of_zero_le hpr.2.1
            have hstepH := Lib.hid hstep
            have hlH := Lib.hid hlstep
            generalize outS gp N k = os at *
            clear hstep hlstep hgn hnm hp hi hpi
            have i0 : ¬ (i : Int) < 0 := by omega
            clear hneg z2 z3 z4
            go_wp2_with (at_builtin; refine wpList_append_lst rfl _ _ 54 rfl intCell 1 intCell_one (by omega) w2.heap.size 2 _ 8 Tryz.underlying54 info_i64 rfl _ _ rfl (hO.alloc _) _ _ _ _ [(i : Int)] rfl (lst_new1 intCell 1 intCell_len _ _ _ _ rfl _ (by simp)) (by rw [hul]; simp; omega) (by omega) (Nat.le_trans hs (by simp)) ?_; intro v5 w5 hO5 hG5 hD5; have hB5 := (hB.alloc hs (.cells #[.int .i64 (i : Int)] 2)).grown hG5 (Nat.le_trans hs (by simp)) (fun j hj => (hO.lt j hj).1))
            have hb5 := hbox.now hB5
            obtain ⟨k0, k1⟩ := hb5.c2
            have l0 := hb5.lt
            obtain ⟨nb', no', hA', hnb2, z2⟩ := strs_at (h1.now hB5) k hlt
            cases hA'
            obtain ⟨pb', po', hA', hpb2, _, _, z3, z4⟩ := places_at (h0.now hB5) i hil
            cases hA'
            rw [hnmH.out] at z2
            rw [hpH.out] at z3 z4
            simp only at z3 z4
            have j1 : (0 : Int) ≤ (k : Int) := by omega
            have j2 : (0 : Int) ≤ (i : Int) := by omega
            have j3 : (i : Int) < (gp.length : Int) := by omega
            have hd1 := decB_size dn
            have hd2 := decB_size tn
            have q1 : ¬ 9223372036854775807 < os.size + 8 := by omega
            have q2 : ¬ 9223372036854775807 < os.size + 8 + nm.size := by omega
            have q3 : ¬ 9223372036854775807 < os.size + 8 + nm.size + 1 := by omega
            have q4 : ¬ 9223372036854775807 < os.size + 8 + nm.size + 1 + (decB dn).size := by omega
            have q5 : ¬ 9223372036854775807 < os.size + 8 + nm.size + 1 + (decB dn).size + 1 := by omega
            have q6 : ¬ 9223372036854775807 < os.size + 8 + nm.size + 1 + (decB dn).size + 1 + (decB tn).size := by omega
            have q7 : ¬ 9223372036854775807 < os.size + 8 + nm.size + 1 + (decB dn).size + 1 + (decB tn).size + 1 := by omega
            replace z2 : w5.drew.cell? ⟨nb, no + k, none⟩ = some (.string nm) := z2
            replace z3 : w5.drew.cell? ⟨pb, po + i * 4 + 2, none⟩ = some (.int .i64 (dn : Nat)) := z3
            replace z4 : w5.drew.cell? ⟨pb, po + i * 4 + 3, none⟩ = some (.int .i64 (tn : Nat)) := z4
            have z1 : w5.drew.cell? ⟨w.heap.size, 1, none⟩ = some (.slice (some ⟨pb, po, none⟩) gp.length c) := k1
            have hBd : Below w5.heap.size w5 w5.drew := Below.drew (Below.refl _ w5)
            clear k0 k1
            refine wp_region_held_drew (S := fun w' => w'.cell? ⟨w.heap.size, 1, none⟩ = some (.slice (some ⟨pb, po, none⟩) gp.length c) ∧ w'.cell? ⟨nb, no + k, none⟩ = some (.string nm) ∧ w'.cell? ⟨pb, po + i * 4 + 2, none⟩ = some (.int .i64 (dn : Nat)) ∧ w'.cell? ⟨pb, po + i * 4 + 3, none⟩ = some (.int .i64 (tn : Nat))) (by kernel_rfl) ⟨z1, z2, z3, z4⟩ (fun hH => ?_)
            refine tkH 0 (v := ?_) rfl (fun _ _ _ h => h) (Or.inl ⟨by rfl, ?_⟩) hH ?_
            rotate_left
            · intro w9 hSw
              try dsimp only at hSw
              obtain ⟨s0, s1, s2, s3⟩ := hSw
              go_simp
              try with_reducible rfl
            try simp only [Act.put, List.setIfInBounds_toArray, List.set_cons_zero, List.set_cons_succ]
            refine tkH 1 (v := ?_) rfl (fun _ _ _ h => h) (Or.inl ⟨by rfl, ?_⟩) hH ?_
            rotate_left
            · intro w9 hSw
              try dsimp only at hSw
              obtain ⟨s0, s1, s2, s3⟩ := hSw
              go_simp
              try with_reducible rfl
            try simp only [Act.put, List.setIfInBounds_toArray, List.set_cons_zero, List.set_cons_succ]
            refine tkH 2 (v := ?_) rfl (fun _ _ _ h => h) (Or.inl ⟨by rfl, ?_⟩) hH ?_
            rotate_left
            · intro w9 hSw
              try dsimp only at hSw
              obtain ⟨s0, s1, s2, s3⟩ := hSw
              go_simp
              try with_reducible rfl
            try simp only [Act.put, List.setIfInBounds_toArray, List.set_cons_zero, List.set_cons_succ]
            refine tkH 3 (v := ?_) rfl (fun _ _ _ h => h) (Or.inl ⟨by rfl, ?_⟩) hH ?_
            rotate_left
            · intro w9 hSw
              try dsimp only at hSw
              obtain ⟨s0, s1, s2, s3⟩ := hSw
              go_simp
              try with_reducible rfl
            try simp only [Act.put, List.setIfInBounds_toArray, List.set_cons_zero, List.set_cons_succ]
            refine tkH 4 (v := ?_) rfl (fun _ _ _ h => h) (Or.inl ⟨by rfl, ?_⟩) hH ?_
            rotate_left
            · intro w9 hSw
              try dsimp only at hSw
              obtain ⟨s0, s1, s2, s3⟩ := hSw
              go_simp
              try with_reducible rfl
            try simp only [Act.put, List.setIfInBounds_toArray, List.set_cons_zero, List.set_cons_succ]
            refine tkH 5 (v := ?_) rfl (fun _ _ _ h => h) (Or.inl ⟨by rfl, ?_⟩) hH ?_
            rotate_left
            · intro w9 hSw
              try dsimp only at hSw
              obtain ⟨s0, s1, s2, s3⟩ := hSw
              go_simp
              try with_reducible rfl
            try simp only [Act.put, List.setIfInBounds_toArray, List.set_cons_zero, List.set_cons_succ]
            refine tkH 6 (v := ?_) rfl (fun _ _ _ h => h) (Or.inl ⟨by rfl, ?_⟩) hH ?_
            rotate_left
            · intro w9 hSw
              try dsimp only at hSw
              obtain ⟨s0, s1, s2, s3⟩ := hSw
              go_simp
              try with_reducible rfl
            try simp only [Act.put, List.setIfInBounds_toArray, List.set_cons_zero, List.set_cons_succ]
            refine tkH 7 (v := ?_) rfl (fun _ _ _ h => h) (Or.inl ⟨by rfl, ?_⟩) hH ?_
            rotate_left
            · intro w9 hSw
              try dsimp only at hSw
              obtain ⟨s0, s1, s2, s3⟩ := hSw
              go_simp
              try with_reducible rfl
            try simp only [Act.put, List.setIfInBounds_toArray, List.set_cons_zero, List.set_cons_succ]
            refine tkH 8 (v := ?_) rfl (fun _ _ _ h => h) (Or.inl ⟨by rfl, ?_⟩) hH ?_
            rotate_left
            · intro w9 hSw
              try dsimp only at hSw
              obtain ⟨s0, s1, s2, s3⟩ := hSw
              go_simp
              try with_reducible rfl
            try simp only [Act.put, List.setIfInBounds_toArray, List.set_cons_zero, List.set_cons_succ]
            refine tkH 9 (v := ?_) rfl (fun _ _ _ h => h) (Or.inl ⟨by rfl, ?_⟩) hH ?_
            rotate_left
            · intro w9 hSw
              try dsimp only at hSw
              obtain ⟨s0, s1, s2, s3⟩ := hSw
              go_simp
              try with_reducible rfl
            try simp only [Act.put, List.setIfInBounds_toArray, List.set_cons_zero, List.set_cons_succ]
            refine tkH 10 (v := ?_) rfl (fun _ _ _ h => h) (Or.inl ⟨by rfl, ?_⟩) hH ?_
            rotate_left
            · intro w9 hSw
              try dsimp only at hSw
              obtain ⟨s0, s1, s2, s3⟩ := hSw
              go_simp
              try with_reducible rfl
            try simp only [Act.put, List.setIfInBounds_toArray, List.set_cons_zero, List.set_cons_succ]
            refine tkH 11 (v := ?_) rfl (fun _ _ _ h => h) (Or.inl ⟨by rfl, ?_⟩) hH ?_
            rotate_left
            · intro w9 hSw
              try dsimp only at hSw
              obtain ⟨s0, s1, s2, s3⟩ := hSw
              go_simp
              try with_reducible rfl
            try simp only [Act.put, List.setIfInBounds_toArray, List.set_cons_zero, List.set_cons_succ]
            refine tkH 12 (v := ?_) rfl (fun _ _ _ h => h) (Or.inl ⟨by rfl, ?_⟩) hH ?_
            rotate_left
            · intro w9 hSw
              try dsimp only at hSw
              obtain ⟨s0, s1, s2, s3⟩ := hSw
              go_simp
              try with_reducible rfl
            try simp only [Act.put, List.setIfInBounds_toArray, List.set_cons_zero, List.set_cons_succ]
            refine tkH 13 (v := ?_) rfl (fun _ _ _ h => h) (Or.inl ⟨by rfl, ?_⟩) hH ?_
            rotate_left
            · intro w9 hSw
              try dsimp only at hSw
              obtain ⟨s0, s1, s2, s3⟩ := hSw
              go_simp
              try with_reducible rfl
            try simp only [Act.put, List.setIfInBounds_toArray, List.set_cons_zero, List.set_cons_succ]
            refine tkH 17 (v := ?_) rfl (fun _ _ _ h => h) (Or.inl ⟨by rfl, ?_⟩) hH ?_
            rotate_left
            · intro w9 hSw
              try dsimp only at hSw
              obtain ⟨s0, s1, s2, s3⟩ := hSw
              go_simp
              try with_reducible rfl
            try simp only [Act.put, List.setIfInBounds_toArray, List.set_cons_zero, List.set_cons_succ]
            refine tkH 18 (v := ?_) rfl (fun _ _ _ h => h) (Or.inl ⟨by rfl, ?_⟩) hH ?_
            rotate_left
            · intro w9 hSw
              try dsimp only at hSw
              obtain ⟨s0, s1, s2, s3⟩ := hSw
              go_simp
              try with_reducible rfl
            try simp only [Act.put, List.setIfInBounds_toArray, List.set_cons_zero, List.set_cons_succ]
            refine tkH 19 (v := ?_) rfl (fun _ _ _ h => h) (Or.inl ⟨by rfl, ?_⟩) hH ?_
            rotate_left
            · intro w9 hSw
              try dsimp only at hSw
              obtain ⟨s0, s1, s2, s3⟩ := hSw
              go_simp
              try with_reducible rfl
            try simp only [Act.put, List.setIfInBounds_toArray, List.set_cons_zero, List.set_cons_succ]
            refine tkH 20 (v := ?_) rfl (fun _ _ _ h => h) (Or.inl ⟨by rfl, ?_⟩) hH ?_
            rotate_left
            · intro w9 hSw
              try dsimp only at hSw
              obtain ⟨s0, s1, s2, s3⟩ := hSw
              go_simp
              try with_reducible rfl
            try simp only [Act.put, List.setIfInBounds_toArray, List.set_cons_zero, List.set_cons_succ]
            refine tkH 21 (v := ?_) rfl (fun _ _ _ h => h) (Or.inl ⟨by rfl, ?_⟩) hH ?_
            rotate_left
            · intro w9 hSw
              try dsimp only at hSw
              obtain ⟨s0, s1, s2, s3⟩ := hSw
              go_simp
              try with_reducible rfl
            try simp only [Act.put, List.setIfInBounds_toArray, List.set_cons_zero, List.set_cons_succ]
            refine tkH 22 (v := ?_) rfl (fun _ _ _ h => h) (Or.inl ⟨by rfl, ?_⟩) hH ?_
            rotate_left
            · intro w9 hSw
              try dsimp only at hSw
              obtain ⟨s0, s1, s2, s3⟩ := hSw
              go_simp
              try with_reducible rfl
            try simp only [Act.put, List.setIfInBounds_toArray, List.set_cons_zero, List.set_cons_succ]
            refine wpAnyH_ready (rs := [14]) (by kernel_rfl) (by simp) ?_
            refine AllReadyH.cons rfl (fun K hK => ?_) AllReadyH.nil
            go_simp
            go_at_call 27
            refine (spec_l01Dec dn _ (by omega)).mono ?_
            rintro ea va ⟨rfl, hba⟩
            have z1a := cell_keep (w := w5.drew) z1 hba
            have z2a := cell_keep (w := w5.drew) z2 hba
            have z3a := cell_keep (w := w5.drew) z3 hba
            have z4a := cell_keep (w := w5.drew) z4 hba
            refine hK.out _ _ ⟨z1a, z2a, z3a, z4a⟩ (fun hH => ?_)
            clear hK K
            try simp only [Act.put, List.setIfInBounds_toArray, List.set_cons_zero, List.set_cons_succ]
            refine tkH 15 (v := ?_) rfl (fun _ _ _ h => h) (Or.inl ⟨by rfl, ?_⟩) hH ?_
            rotate_left
            · intro w9 hSw
              try dsimp only at hSw
              obtain ⟨s0, s1, s2, s3⟩ := hSw
              go_simp
              try with_reducible rfl
            try simp only [Act.put, List.setIfInBounds_toArray, List.set_cons_zero, List.set_cons_succ]
            refine tkH 16 (v := ?_) rfl (fun _ _ _ h => h) (Or.inl ⟨by rfl, ?_⟩) hH ?_
            rotate_left
            · intro w9 hSw
              try dsimp only at hSw
              obtain ⟨s0, s1, s2, s3⟩ := hSw
              go_simp
              try with_reducible rfl
            try simp only [Act.put, List.setIfInBounds_toArray, List.set_cons_zero, List.set_cons_succ]
            refine wpAnyH_ready (rs := [23]) (by kernel_rfl) (by simp) ?_
            refine AllReadyH.cons rfl (fun K hK => ?_) AllReadyH.nil
            go_simp
            go_at_call 27
            refine (spec_l01Dec tn _ (by omega)).mono ?_
            rintro eb vb ⟨rfl, hbb⟩
            have z1ab := cell_keep (w := va) z1a hbb
            have z2ab := cell_keep (w := va) z2a hbb
            have z3ab := cell_keep (w := va) z3a hbb
            have z4ab := cell_keep (w := va) z4a hbb
            refine hK.out _ _ ⟨z1ab, z2ab, z3ab, z4ab⟩ (fun hH => ?_)
            clear hK K
            try simp only [Act.put, List.setIfInBounds_toArray, List.set_cons_zero, List.set_cons_succ]
            refine tkH 24 (v := ?_) rfl (fun _ _ _ h => h) (Or.inl ⟨by rfl, ?_⟩) hH ?_
            rotate_left
            · intro w9 hSw
              try dsimp only at hSw
              obtain ⟨s0, s1, s2, s3⟩ := hSw
              go_simp
              try with_reducible rfl
            try simp only [Act.put, List.setIfInBounds_toArray, List.set_cons_zero, List.set_cons_succ]
            refine tkH 25 (v := ?_) rfl (fun _ _ _ h => h) (Or.inl ⟨by rfl, ?_⟩) hH ?_
            rotate_left
            · intro w9 hSw
              try dsimp only at hSw
              obtain ⟨s0, s1, s2, s3⟩ := hSw
              go_simp
              try with_reducible rfl
            try simp only [Act.put, List.setIfInBounds_toArray, List.set_cons_zero, List.set_cons_succ]
            refine tkH 26 (v := ?_) rfl (fun _ _ _ h => h) (Or.inl ⟨by rfl, ?_⟩) hH ?_
            rotate_left
            · intro w9 hSw
              try dsimp only at hSw
              obtain ⟨s0, s1, s2, s3⟩ := hSw
              go_simp
              try with_reducible rfl
            try simp only [Act.put, List.setIfInBounds_toArray, List.set_cons_zero, List.set_cons_succ]
            refine wpAnyH_done (by kernel_rfl) ?_ _
            have hB9 := hBd.trans ((hba.trans (hbb.mono hba.size)).mono hBd.size)
            replace hO5 := hO5.now hB9
            replace hB5 := hB5.trans (hB9.mono hB5.size)
            rw [← hlH.out] at hO5
            go_wp2
            go_roundw
            case rel => exact ⟨k + 1, hlt, by go_num, by rw [hstepH.out]; exact congrArg Value.string (out_stat os nm ⟨ps, pd, dn, tn⟩), hA2, hO5, hB5⟩
            case measure => simp [intOf] <;> omega
        · obtain rfl : k = N.length := by omega
          have hgood := loops_good hA.out
          obtain ⟨wq, rfl⟩ : ∃ wq : World, wq = wr := ⟨_, rfl⟩
          have hrest2 : Hid ((if 2000 < (printT gp N).size then ((⟨#[]⟩ : ByteArray), (3 : Int)) else (printT gp N, 0)) = (T, C)) := by
            have h := hT.out
            rw [hrest.out, if_neg (by rw [hgood]; simp)] at h
            exact h
          have hul := loopsF_len gp N.length
          have hws2 := hs
          have hBq := hB2.trans (hB.mono hws)
          replace h0 := h0.now hB
          replace h1 := h1.now hB
          have hO2 := hO
          clear hA hgood hrest hO hB hs
          obtain ⟨L, hL⟩ : ∃ L, loopsF gp N.length = L := ⟨_, rfl⟩
          rw [hL] at hO2 hul
          have hLH := Lib.hid hL
          clear hL
          have hz0 := outR_zero gp N
          go_wp2
          clear k0 k1 l0
          go_loopw [6, 10, 11] (fun o e _ wr => ∃ k : Nat, k ≤ gp.length ∧ e = .int .i64 k ∧ o = .string (outR gp N k) ∧ Below wq.heap.size wq wr) (fun _ e _ _ => gp.length - (intOf e).toNat)
          case atStart => exact ⟨0, Nat.zero_le _, rfl, by rw [hz0], Below.refl _ _⟩
          case round =>
            obtain ⟨k, hk, rfl, rfl, hB⟩ := hrel
            have hs := hB.size
            have hbr' := hbr.now hB
            obtain ⟨k0, k1⟩ := hbr'.c2
            have l0 := hbr'.lt
            by_cases hlt : k < gp.length
            · have i1 : (0 : Int) ≤ (k : Int) := by omega
              have i2 : (k : Int) < (gp.length : Int) := by omega
              obtain ⟨pb, po, hPA, hpb, y0, y1, y2, y3⟩ := places_at (h0.now hB) k hlt
              subst hPA
              have hpr := okGraph_place hqH.out (List.getElem_mem hlt)
              have hosz := outR_size hqH.out (namesOk_parts hnH.out).2.1 (by omega) k (by omega)
              have hused := Lib.hid (fun h => outR_used gp N k h)
              have hnext := Lib.hid (fun h => outR_next gp N k hlt h)
              have hnames := (namesOk_parts hnH.out).2.1
              obtain ⟨p, hp⟩ : ∃ p, gp[k] = p := ⟨_, rfl⟩
              rw [hp] at y0 y1 y2 y3 hpr hnext
              obtain ⟨ps, pd, pdl, pt⟩ := p
              simp only at y0 y1 y2 y3 hpr
              obtain ⟨sn, rfl⟩ := Int.eq_ofNat_of_zero_le hpr.1.1
              obtain ⟨en, rfl⟩ := Int.eq_ofNat_of_zero_le hpr.2.1.1
              obtain ⟨dn, rfl⟩ := Int.eq_ofNat_of_zero_le hpr.2.2.1.1
              obtain ⟨tn, rfl⟩ := Int.eq_ofNat_of_zero_le hpr.2.2.2.1
              have hsn : sn < N.length := by omega
              have hen : en < N.length := by omega
              have hBa : Below wr.heap.size wr (wr.alloc (.cells #[.int .i64 (sn : Nat), .int .i64 (en : Nat), .int .i64 (dn : Nat), .int .i64 (tn : Nat)] 57)) := (Below.refl _ _).alloc (Nat.le_refl _) _
              have hbp := Blk.newAt wr (t := 57) (cs := #[.int .i64 (sn : Nat), .int .i64 (en : Nat), .int .i64 (dn : Nat), .int .i64 (tn : Nat)]) _ rfl
              have hBX := hB.trans (hBa.mono hs)
              clear hp
              go_wp2_with fail
              generalize wr.alloc (.cells #[.int .i64 (sn : Nat), .int .i64 (en : Nat), .int .i64 (dn : Nat), .int .i64 (tn : Nat)] 57) = X at *
              obtain ⟨bp, hbpE⟩ : ∃ bp, wr.heap.size = bp := ⟨_, rfl⟩
              rw [hbpE] at hbp ⊢
              clear hbpE
              refine (spec_l01Has _ _ _ _ (hO2.now hBX).lst).mono ?_
              rintro e w6 ⟨rfl, rfl⟩
              have hsX := hBX.size
              obtain ⟨nb, no, hNA, hnb, z4⟩ := strs_at (h1.now hBX) sn hsn
              obtain ⟨nb2, no2, hNA2, _, z5⟩ := strs_at (h1.now hBX) en hen
              subst hNA
              cases hNA2
              have hm1 := nameOk_size (hnames _ (List.getElem_mem hsn))
              have hm2 := nameOk_size (hnames _ (List.getElem_mem hen))
              have hg1 : nmAt N (sn : Nat) = N[sn] := by unfold nmAt; rw [Int.toNat_natCast, List.getD_eq_getElem?_getD, List.getElem?_eq_getElem hsn]; rfl
              have hg2 : nmAt N (en : Nat) = N[en] := by unfold nmAt; rw [Int.toNat_natCast, List.getD_eq_getElem?_getD, List.getElem?_eq_getElem hen]; rfl
              obtain ⟨n1, hn1⟩ : ∃ n1, N[sn] = n1 := ⟨_, rfl⟩
              obtain ⟨n2, hn2⟩ : ∃ n2, N[en] = n2 := ⟨_, rfl⟩
              rw [hn1] at z4 hm1 hg1
              rw [hn2] at z5 hm2 hg2
              obtain ⟨z1, z2, z3, z6⟩ := hbp.c4
              have lp := hbp.lt
              have hg1H := Lib.hid hg1
              have hg2H := Lib.hid hg2
              have hcon : Hid (hasI L (k : Int) = (loopsF gp N.length).contains (k : Int)) := by
                show _ = _
                rw [hLH.out, Bool.eq_iff_iff, hasI_iff]
                simp
              obtain ⟨R0, hR0⟩ : ∃ R0, outR gp N k = R0 := ⟨_, rfl⟩
              have hR0H := Lib.hid hR0
              rw [hR0] at hosz ⊢
              obtain ⟨U, hU⟩ : ∃ U, hasI L (k : Int) = U := ⟨_, rfl⟩
              have hUH := Lib.hid hU
              rw [hU]
              clear hn1 hn2 hg1 hg2 hR0 hU y0 y1 y2 y3 k0 k1 l0 hbr' hnames hpb hnb
              cases U with
              | true =>
                have hsame : Hid (outR gp N (k + 1) = R0) := by
                  show _ = _
                  rw [hused.out (hcon.out.symm.trans hUH.out), hR0H.out]
                go_wp2
                go_roundw
                case rel => exact ⟨k + 1, hlt, by go_num, by rw [hsame.out], hBX⟩
                case measure => simp [intOf] <;> omega
              | false =>
                have hstep := Lib.hid (hnext.out (hcon.out.symm.trans hUH.out))
                have hd1 := decB_size dn
                have hd2 := decB_size tn
                by_cases ht0 : tn = 0
                · have ht0H := Lib.hid ht0
                  have hq0 : ((tn : Int) == 0) = true := by simp [ht0]
                  have q1 : ¬ 9223372036854775807 < R0.size + 5 := by omega
                  have q2 : ¬ 9223372036854775807 < R0.size + 5 + n1.size := by omega
                  have q3 : ¬ 9223372036854775807 < R0.size + 5 + n1.size + 1 := by omega
                  have q4 : ¬ 9223372036854775807 < R0.size + 5 + n1.size + 1 + n2.size := by omega
                  have q5 : ¬ 9223372036854775807 < R0.size + 5 + n1.size + 1 + n2.size + 1 := by omega
                  have q6 : ¬ 9223372036854775807 < R0.size + 5 + n1.size + 1 + n2.size + 1 + (decB dn).size := by omega
                  have q7 : ¬ 9223372036854775807 < R0.size + 5 + n1.size + 1 + n2.size + 1 + (decB dn).size + 1 := by omega
                  have j1 : (0 : Int) ≤ (sn : Int) := by omega
                  have j2 : (sn : Int) < (N.length : Int) := by omega
                  have j3 : (0 : Int) ≤ (en : Int) := by omega
                  have j4 : (en : Int) < (N.length : Int) := by omega
                  clear ht0
                  go_wp2
                  replace z1 : X.drew.cell? ⟨bp, 0, none⟩ = some (.int .i64 (sn : Nat)) := z1
                  replace z2 : X.drew.cell? ⟨bp, 1, none⟩ = some (.int .i64 (en : Nat)) := z2
                  replace z3 : X.drew.cell? ⟨bp, 2, none⟩ = some (.int .i64 (dn : Nat)) := z3
                  replace z4 : X.drew.cell? ⟨nb, no + sn, none⟩ = some (.string n1) := z4
                  replace z5 : X.drew.cell? ⟨nb, no + en, none⟩ = some (.string n2) := z5
                  have hBd : Below X.heap.size X X.drew := Below.drew (Below.refl _ X)
                  clear z6
                  refine wp_region_held_drew (S := fun w' => w'.cell? ⟨bp, 0, none⟩ = some (.int .i64 (sn : Nat)) ∧ w'.cell? ⟨bp, 1, none⟩ = some (.int .i64 (en : Nat)) ∧ w'.cell? ⟨bp, 2, none⟩ = some (.int .i64 (dn : Nat)) ∧ w'.cell? ⟨nb, no + sn, none⟩ = some (.string n1) ∧ w'.cell? ⟨nb, no + en, none⟩ = some (.string n2)) (by kernel_rfl) ⟨z1, z2, z3, z4, z5⟩ (fun hH => ?_)
                  refine tkH 0 (v := ?_) rfl (fun _ _ _ h => h) (Or.inl ⟨by rfl, ?_⟩) hH ?_
                  rotate_left
                  · intro w9 hSw
                    try dsimp only at hSw
                    obtain ⟨s0, s1, s2, s3, s4⟩ := hSw
                    go_simp
                    try with_reducible rfl
                  try simp only [Act.put, List.setIfInBounds_toArray, List.set_cons_zero, List.set_cons_succ]
                  refine tkH 1 (v := ?_) rfl (fun _ _ _ h => h) (Or.inl ⟨by rfl, ?_⟩) hH ?_
                  rotate_left
                  · intro w9 hSw
                    try dsimp only at hSw
                    obtain ⟨s0, s1, s2, s3, s4⟩ := hSw
                    go_simp
                    try with_reducible rfl
                  try simp only [Act.put, List.setIfInBounds_toArray, List.set_cons_zero, List.set_cons_succ]
                  refine tkH 2 (v := ?_) rfl (fun _ _ _ h => h) (Or.inl ⟨by rfl, ?_⟩) hH ?_
                  rotate_left
                  · intro w9 hSw
                    try dsimp only at hSw
                    obtain ⟨s0, s1, s2, s3, s4⟩ := hSw
                    go_simp
                    try with_reducible rfl
                  try simp only [Act.put, List.setIfInBounds_toArray, List.set_cons_zero, List.set_cons_succ]
                  refine tkH 3 (v := ?_) rfl (fun _ _ _ h => h) (Or.inl ⟨by rfl, ?_⟩) hH ?_
                  rotate_left
                  · intro w9 hSw
                    try dsimp only at hSw
                    obtain ⟨s0, s1, s2, s3, s4⟩ := hSw
                    go_simp
                    try with_reducible rfl
                  try simp only [Act.put, List.setIfInBounds_toArray, List.set_cons_zero, List.set_cons_succ]
                  refine tkH 4 (v := ?_) rfl (fun _ _ _ h => h) (Or.inl ⟨by rfl, ?_⟩) hH ?_
                  rotate_left
                  · intro w9 hSw
                    try dsimp only at hSw
                    obtain ⟨s0, s1, s2, s3, s4⟩ := hSw
                    go_simp
                    try with_reducible rfl
                  try simp only [Act.put, List.setIfInBounds_toArray, List.set_cons_zero, List.set_cons_succ]
                  refine tkH 5 (v := ?_) rfl (fun _ _ _ h => h) (Or.inl ⟨by rfl, ?_⟩) hH ?_
                  rotate_left
                  · intro w9 hSw
                    try dsimp only at hSw
                    obtain ⟨s0, s1, s2, s3, s4⟩ := hSw
                    go_simp
                    try with_reducible rfl
                  try simp only [Act.put, List.setIfInBounds_toArray, List.set_cons_zero, List.set_cons_succ]
                  refine tkH 6 (v := ?_) rfl (fun _ _ _ h => h) (Or.inl ⟨by rfl, ?_⟩) hH ?_
                  rotate_left
                  · intro w9 hSw
                    try dsimp only at hSw
                    obtain ⟨s0, s1, s2, s3, s4⟩ := hSw
                    go_simp
                    try with_reducible rfl
                  try simp only [Act.put, List.setIfInBounds_toArray, List.set_cons_zero, List.set_cons_succ]
                  refine tkH 7 (v := ?_) rfl (fun _ _ _ h => h) (Or.inl ⟨by rfl, ?_⟩) hH ?_
                  rotate_left
                  · intro w9 hSw
                    try dsimp only at hSw
                    obtain ⟨s0, s1, s2, s3, s4⟩ := hSw
                    go_simp
                    try with_reducible rfl
                  try simp only [Act.put, List.setIfInBounds_toArray, List.set_cons_zero, List.set_cons_succ]
                  refine tkH 8 (v := ?_) rfl (fun _ _ _ h => h) (Or.inl ⟨by rfl, ?_⟩) hH ?_
                  rotate_left
                  · intro w9 hSw
                    try dsimp only at hSw
                    obtain ⟨s0, s1, s2, s3, s4⟩ := hSw
                    go_simp
                    try with_reducible rfl
                  try simp only [Act.put, List.setIfInBounds_toArray, List.set_cons_zero, List.set_cons_succ]
                  refine tkH 9 (v := ?_) rfl (fun _ _ _ h => h) (Or.inl ⟨by rfl, ?_⟩) hH ?_
                  rotate_left
                  · intro w9 hSw
                    try dsimp only at hSw
                    obtain ⟨s0, s1, s2, s3, s4⟩ := hSw
                    go_simp
                    try with_reducible rfl
                  try simp only [Act.put, List.setIfInBounds_toArray, List.set_cons_zero, List.set_cons_succ]
                  refine tkH 10 (v := ?_) rfl (fun _ _ _ h => h) (Or.inl ⟨by rfl, ?_⟩) hH ?_
                  rotate_left
                  · intro w9 hSw
                    try dsimp only at hSw
                    obtain ⟨s0, s1, s2, s3, s4⟩ := hSw
                    go_simp
                    try with_reducible rfl
                  try simp only [Act.put, List.setIfInBounds_toArray, List.set_cons_zero, List.set_cons_succ]
                  refine tkH 11 (v := ?_) rfl (fun _ _ _ h => h) (Or.inl ⟨by rfl, ?_⟩) hH ?_
                  rotate_left
                  · intro w9 hSw
                    try dsimp only at hSw
                    obtain ⟨s0, s1, s2, s3, s4⟩ := hSw
                    go_simp
                    try with_reducible rfl
                  try simp only [Act.put, List.setIfInBounds_toArray, List.set_cons_zero, List.set_cons_succ]
                  refine tkH 12 (v := ?_) rfl (fun _ _ _ h => h) (Or.inl ⟨by rfl, ?_⟩) hH ?_
                  rotate_left
                  · intro w9 hSw
                    try dsimp only at hSw
                    obtain ⟨s0, s1, s2, s3, s4⟩ := hSw
                    go_simp
                    try with_reducible rfl
                  try simp only [Act.put, List.setIfInBounds_toArray, List.set_cons_zero, List.set_cons_succ]
                  refine tkH 13 (v := ?_) rfl (fun _ _ _ h => h) (Or.inl ⟨by rfl, ?_⟩) hH ?_
                  rotate_left
                  · intro w9 hSw
                    try dsimp only at hSw
                    obtain ⟨s0, s1, s2, s3, s4⟩ := hSw
                    go_simp
                    try with_reducible rfl
                  try simp only [Act.put, List.setIfInBounds_toArray, List.set_cons_zero, List.set_cons_succ]
                  refine tkH 14 (v := ?_) rfl (fun _ _ _ h => h) (Or.inl ⟨by rfl, ?_⟩) hH ?_
                  rotate_left
                  · intro w9 hSw
                    try dsimp only at hSw
                    obtain ⟨s0, s1, s2, s3, s4⟩ := hSw
                    go_simp
                    try with_reducible rfl
                  try simp only [Act.put, List.setIfInBounds_toArray, List.set_cons_zero, List.set_cons_succ]
                  refine tkH 15 (v := ?_) rfl (fun _ _ _ h => h) (Or.inl ⟨by rfl, ?_⟩) hH ?_
                  rotate_left
                  · intro w9 hSw
                    try dsimp only at hSw
                    obtain ⟨s0, s1, s2, s3, s4⟩ := hSw
                    go_simp
                    try with_reducible rfl
                  try simp only [Act.put, List.setIfInBounds_toArray, List.set_cons_zero, List.set_cons_succ]
                  refine tkH 16 (v := ?_) rfl (fun _ _ _ h => h) (Or.inl ⟨by rfl, ?_⟩) hH ?_
                  rotate_left
                  · intro w9 hSw
                    try dsimp only at hSw
                    obtain ⟨s0, s1, s2, s3, s4⟩ := hSw
                    go_simp
                    try with_reducible rfl
                  try simp only [Act.put, List.setIfInBounds_toArray, List.set_cons_zero, List.set_cons_succ]
                  refine tkH 17 (v := ?_) rfl (fun _ _ _ h => h) (Or.inl ⟨by rfl, ?_⟩) hH ?_
                  rotate_left
                  · intro w9 hSw
                    try dsimp only at hSw
                    obtain ⟨s0, s1, s2, s3, s4⟩ := hSw
                    go_simp
                    try with_reducible rfl
                  try simp only [Act.put, List.setIfInBounds_toArray, List.set_cons_zero, List.set_cons_succ]
                  refine wpAnyH_ready (rs := [18]) (by kernel_rfl) (by simp) ?_
                  refine AllReadyH.cons rfl (fun K hK => ?_) AllReadyH.nil
                  go_simp
                  go_at_call 27
                  refine (spec_l01Dec dn _ (by omega)).mono ?_
                  rintro ea va ⟨rfl, hba⟩
                  have z1a := cell_keep (w := X.drew) z1 hba
                  have z2a := cell_keep (w := X.drew) z2 hba
                  have z3a := cell_keep (w := X.drew) z3 hba
                  have z4a := cell_keep (w := X.drew) z4 hba
                  have z5a := cell_keep (w := X.drew) z5 hba
                  refine hK.out _ _ ⟨z1a, z2a, z3a, z4a, z5a⟩ (fun hH => ?_)
                  clear hK K
                  try simp only [Act.put, List.setIfInBounds_toArray, List.set_cons_zero, List.set_cons_succ]
                  refine tkH 19 (v := ?_) rfl (fun _ _ _ h => h) (Or.inl ⟨by rfl, ?_⟩) hH ?_
                  rotate_left
                  · intro w9 hSw
                    try dsimp only at hSw
                    obtain ⟨s0, s1, s2, s3, s4⟩ := hSw
                    go_simp
                    try with_reducible rfl
                  try simp only [Act.put, List.setIfInBounds_toArray, List.set_cons_zero, List.set_cons_succ]
                  refine tkH 20 (v := ?_) rfl (fun _ _ _ h => h) (Or.inl ⟨by rfl, ?_⟩) hH ?_
                  rotate_left
                  · intro w9 hSw
                    try dsimp only at hSw
                    obtain ⟨s0, s1, s2, s3, s4⟩ := hSw
                    go_simp
                    try with_reducible rfl
                  try simp only [Act.put, List.setIfInBounds_toArray, List.set_cons_zero, List.set_cons_succ]
                  refine tkH 21 (v := ?_) rfl (fun _ _ _ h => h) (Or.inl ⟨by rfl, ?_⟩) hH ?_
                  rotate_left
                  · intro w9 hSw
                    try dsimp only at hSw
                    obtain ⟨s0, s1, s2, s3, s4⟩ := hSw
                    go_simp
                    try with_reducible rfl
                  try simp only [Act.put, List.setIfInBounds_toArray, List.set_cons_zero, List.set_cons_succ]
                  refine wpAnyH_done (by kernel_rfl) ?_ _
                  have hB9 := hBX.trans ((hBd.trans (hba.mono hBd.size)).mono hsX)
                  go_wp2
                  go_roundw
                  case rel => exact ⟨k + 1, hlt, by go_num, by rw [hstep.out, hR0H.out, ← out_move _ _ _ (by simp [ht0H.out]), hg1H.out, hg2H.out], hB9⟩
                  case measure => simp [intOf] <;> omega
                · have ht0H := Lib.hid ht0
                  have hq0 : ((tn : Int) == 0) = false := by simp; omega
                  have q1 : ¬ 9223372036854775807 < R0.size + 5 := by omega
                  have q2 : ¬ 9223372036854775807 < R0.size + 5 + n2.size := by omega
                  have q3 : ¬ 9223372036854775807 < R0.size + 5 + n2.size + 1 := by omega
                  have q4 : ¬ 9223372036854775807 < R0.size + 5 + n2.size + 1 + n1.size := by omega
                  have q5 : ¬ 9223372036854775807 < R0.size + 5 + n2.size + 1 + n1.size + 1 := by omega
                  have q6 : ¬ 9223372036854775807 < R0.size + 5 + n2.size + 1 + n1.size + 1 + (decB dn).size := by omega
                  have q7 : ¬ 9223372036854775807 < R0.size + 5 + n2.size + 1 + n1.size + 1 + (decB dn).size + 1 := by omega
                  have q8 : ¬ 9223372036854775807 < R0.size + 5 + n2.size + 1 + n1.size + 1 + (decB dn).size + 1 + (decB tn).size := by omega
                  have q9 : ¬ 9223372036854775807 < R0.size + 5 + n2.size + 1 + n1.size + 1 + (decB dn).size + 1 + (decB tn).size + 1 := by omega
                  have j1 : (0 : Int) ≤ (sn : Int) := by omega
                  have j2 : (sn : Int) < (N.length : Int) := by omega
                  have j3 : (0 : Int) ≤ (en : Int) := by omega
                  have j4 : (en : Int) < (N.length : Int) := by omega
                  clear ht0
                  go_wp2
                  replace z1 : X.drew.cell? ⟨bp, 0, none⟩ = some (.int .i64 (sn : Nat)) := z1
                  replace z2 : X.drew.cell? ⟨bp, 1, none⟩ = some (.int .i64 (en : Nat)) := z2
                  replace z3 : X.drew.cell? ⟨bp, 2, none⟩ = some (.int .i64 (dn : Nat)) := z3
                  replace z6 : X.drew.cell? ⟨bp, 3, none⟩ = some (.int .i64 (tn : Nat)) := z6
                  replace z4 : X.drew.cell? ⟨nb, no + sn, none⟩ = some (.string n1) := z4
                  replace z5 : X.drew.cell? ⟨nb, no + en, none⟩ = some (.string n2) := z5
                  have hBd : Below X.heap.size X X.drew := Below.drew (Below.refl _ X)
                  refine wp_region_held_drew (S := fun w' => w'.cell? ⟨bp, 0, none⟩ = some (.int .i64 (sn : Nat)) ∧ w'.cell? ⟨bp, 1, none⟩ = some (.int .i64 (en : Nat)) ∧ w'.cell? ⟨bp, 2, none⟩ = some (.int .i64 (dn : Nat)) ∧ w'.cell? ⟨bp, 3, none⟩ = some (.int .i64 (tn : Nat)) ∧ w'.cell? ⟨nb, no + sn, none⟩ = some (.string n1) ∧ w'.cell? ⟨nb, no + en, none⟩ = some (.string n2)) (by kernel_rfl) ⟨z1, z2, z3, z6, z4, z5⟩ (fun hH => ?_)
                  refine tkH 0 (v := ?_) rfl (fun _ _ _ h => h) (Or.inl ⟨by rfl, ?_⟩) hH ?_
                  rotate_left
                  · intro w9 hSw
                    try dsimp only at hSw
                    obtain ⟨s0, s1, s2, s3, s4, s5⟩ := hSw
                    go_simp
                    try with_reducible rfl
                  try simp only [Act.put, List.setIfInBounds_toArray, List.set_cons_zero, List.set_cons_succ]
                  refine tkH 1 (v := ?_) rfl (fun _ _ _ h => h) (Or.inl ⟨by rfl, ?_⟩) hH ?_
                  rotate_left
                  · intro w9 hSw
                    try dsimp only at hSw
                    obtain ⟨s0, s1, s2, s3, s4, s5⟩ := hSw
                    go_simp
                    try with_reducible rfl
                  try simp only [Act.put, List.setIfInBounds_toArray, List.set_cons_zero, List.set_cons_succ]
                  refine tkH 2 (v := ?_) rfl (fun _ _ _ h => h) (Or.inl ⟨by rfl, ?_⟩) hH ?_
                  rotate_left
                  · intro w9 hSw
                    try dsimp only at hSw
                    obtain ⟨s0, s1, s2, s3, s4, s5⟩ := hSw
                    go_simp
                    try with_reducible rfl
                  try simp only [Act.put, List.setIfInBounds_toArray, List.set_cons_zero, List.set_cons_succ]
                  refine tkH 3 (v := ?_) rfl (fun _ _ _ h => h) (Or.inl ⟨by rfl, ?_⟩) hH ?_
                  rotate_left
                  · intro w9 hSw
                    try dsimp only at hSw
                    obtain ⟨s0, s1, s2, s3, s4, s5⟩ := hSw
                    go_simp
                    try with_reducible rfl
                  try simp only [Act.put, List.setIfInBounds_toArray, List.set_cons_zero, List.set_cons_succ]
                  refine tkH 4 (v := ?_) rfl (fun _ _ _ h => h) (Or.inl ⟨by rfl, ?_⟩) hH ?_
                  rotate_left
                  · intro w9 hSw
                    try dsimp only at hSw
                    obtain ⟨s0, s1, s2, s3, s4, s5⟩ := hSw
                    go_simp
                    try with_reducible rfl
                  try simp only [Act.put, List.setIfInBounds_toArray, List.set_cons_zero, List.set_cons_succ]
                  refine tkH 5 (v := ?_) rfl (fun _ _ _ h => h) (Or.inl ⟨by rfl, ?_⟩) hH ?_
                  rotate_left
                  · intro w9 hSw
                    try dsimp only at hSw
                    obtain ⟨s0, s1, s2, s3, s4, s5⟩ := hSw
                    go_simp
                    try with_reducible rfl
                  try simp only [Act.put, List.setIfInBounds_toArray, List.set_cons_zero, List.set_cons_succ]
                  refine tkH 6 (v := ?_) rfl (fun _ _ _ h => h) (Or.inl ⟨by rfl, ?_⟩) hH ?_
                  rotate_left
                  · intro w9 hSw
                    try dsimp only at hSw
                    obtain ⟨s0, s1, s2, s3, s4, s5⟩ := hSw
                    go_simp
                    try with_reducible rfl
                  try simp only [Act.put, List.setIfInBounds_toArray, List.set_cons_zero, List.set_cons_succ]
                  refine tkH 7 (v := ?_) rfl (fun _ _ _ h => h) (Or.inl ⟨by rfl, ?_⟩) hH ?_
                  rotate_left
                  · intro w9 hSw
                    try dsimp only at hSw
                    obtain ⟨s0, s1, s2, s3, s4, s5⟩ := hSw
                    go_simp
                    try with_reducible rfl
                  try simp only [Act.put, List.setIfInBounds_toArray, List.set_cons_zero, List.set_cons_succ]
                  refine tkH 8 (v := ?_) rfl (fun _ _ _ h => h) (Or.inl ⟨by rfl, ?_⟩) hH ?_
                  rotate_left
                  · intro w9 hSw
                    try dsimp only at hSw
                    obtain ⟨s0, s1, s2, s3, s4, s5⟩ := hSw
                    go_simp
                    try with_reducible rfl
                  try simp only [Act.put, List.setIfInBounds_toArray, List.set_cons_zero, List.set_cons_succ]
                  refine tkH 9 (v := ?_) rfl (fun _ _ _ h => h) (Or.inl ⟨by rfl, ?_⟩) hH ?_
                  rotate_left
                  · intro w9 hSw
                    try dsimp only at hSw
                    obtain ⟨s0, s1, s2, s3, s4, s5⟩ := hSw
                    go_simp
                    try with_reducible rfl
                  try simp only [Act.put, List.setIfInBounds_toArray, List.set_cons_zero, List.set_cons_succ]
                  refine tkH 10 (v := ?_) rfl (fun _ _ _ h => h) (Or.inl ⟨by rfl, ?_⟩) hH ?_
                  rotate_left
                  · intro w9 hSw
                    try dsimp only at hSw
                    obtain ⟨s0, s1, s2, s3, s4, s5⟩ := hSw
                    go_simp
                    try with_reducible rfl
                  try simp only [Act.put, List.setIfInBounds_toArray, List.set_cons_zero, List.set_cons_succ]
                  refine tkH 11 (v := ?_) rfl (fun _ _ _ h => h) (Or.inl ⟨by rfl, ?_⟩) hH ?_
                  rotate_left
                  · intro w9 hSw
                    try dsimp only at hSw
                    obtain ⟨s0, s1, s2, s3, s4, s5⟩ := hSw
                    go_simp
                    try with_reducible rfl
                  try simp only [Act.put, List.setIfInBounds_toArray, List.set_cons_zero, List.set_cons_succ]
                  refine tkH 12 (v := ?_) rfl (fun _ _ _ h => h) (Or.inl ⟨by rfl, ?_⟩) hH ?_
                  rotate_left
                  · intro w9 hSw
                    try dsimp only at hSw
                    obtain ⟨s0, s1, s2, s3, s4, s5⟩ := hSw
                    go_simp
                    try with_reducible rfl
                  try simp only [Act.put, List.setIfInBounds_toArray, List.set_cons_zero, List.set_cons_succ]
                  refine tkH 13 (v := ?_) rfl (fun _ _ _ h => h) (Or.inl ⟨by rfl, ?_⟩) hH ?_
                  rotate_left
                  · intro w9 hSw
                    try dsimp only at hSw
                    obtain ⟨s0, s1, s2, s3, s4, s5⟩ := hSw
                    go_simp
                    try with_reducible rfl
                  try simp only [Act.put, List.setIfInBounds_toArray, List.set_cons_zero, List.set_cons_succ]
                  refine tkH 14 (v := ?_) rfl (fun _ _ _ h => h) (Or.inl ⟨by rfl, ?_⟩) hH ?_
                  rotate_left
                  · intro w9 hSw
                    try dsimp only at hSw
                    obtain ⟨s0, s1, s2, s3, s4, s5⟩ := hSw
                    go_simp
                    try with_reducible rfl
                  try simp only [Act.put, List.setIfInBounds_toArray, List.set_cons_zero, List.set_cons_succ]
                  refine tkH 15 (v := ?_) rfl (fun _ _ _ h => h) (Or.inl ⟨by rfl, ?_⟩) hH ?_
                  rotate_left
                  · intro w9 hSw
                    try dsimp only at hSw
                    obtain ⟨s0, s1, s2, s3, s4, s5⟩ := hSw
                    go_simp
                    try with_reducible rfl
                  try simp only [Act.put, List.setIfInBounds_toArray, List.set_cons_zero, List.set_cons_succ]
                  refine tkH 16 (v := ?_) rfl (fun _ _ _ h => h) (Or.inl ⟨by rfl, ?_⟩) hH ?_
                  rotate_left
                  · intro w9 hSw
                    try dsimp only at hSw
                    obtain ⟨s0, s1, s2, s3, s4, s5⟩ := hSw
                    go_simp
                    try with_reducible rfl
                  try simp only [Act.put, List.setIfInBounds_toArray, List.set_cons_zero, List.set_cons_succ]
                  refine tkH 17 (v := ?_) rfl (fun _ _ _ h => h) (Or.inl ⟨by rfl, ?_⟩) hH ?_
                  rotate_left
                  · intro w9 hSw
                    try dsimp only at hSw
                    obtain ⟨s0, s1, s2, s3, s4, s5⟩ := hSw
                    go_simp
                    try with_reducible rfl
                  try simp only [Act.put, List.setIfInBounds_toArray, List.set_cons_zero, List.set_cons_succ]
                  refine tkH 21 (v := ?_) rfl (fun _ _ _ h => h) (Or.inl ⟨by rfl, ?_⟩) hH ?_
                  rotate_left
                  · intro w9 hSw
                    try dsimp only at hSw
                    obtain ⟨s0, s1, s2, s3, s4, s5⟩ := hSw
                    go_simp
                    try with_reducible rfl
                  try simp only [Act.put, List.setIfInBounds_toArray, List.set_cons_zero, List.set_cons_succ]
                  refine tkH 22 (v := ?_) rfl (fun _ _ _ h => h) (Or.inl ⟨by rfl, ?_⟩) hH ?_
                  rotate_left
                  · intro w9 hSw
                    try dsimp only at hSw
                    obtain ⟨s0, s1, s2, s3, s4, s5⟩ := hSw
                    go_simp
                    try with_reducible rfl
                  try simp only [Act.put, List.setIfInBounds_toArray, List.set_cons_zero, List.set_cons_succ]
                  refine wpAnyH_ready (rs := [18]) (by kernel_rfl) (by simp) ?_
                  refine AllReadyH.cons rfl (fun K hK => ?_) AllReadyH.nil
                  go_simp
                  go_at_call 27
                  refine (spec_l01Dec dn _ (by omega)).mono ?_
                  rintro ea va ⟨rfl, hba⟩
                  have z1a := cell_keep (w := X.drew) z1 hba
                  have z2a := cell_keep (w := X.drew) z2 hba
                  have z3a := cell_keep (w := X.drew) z3 hba
                  have z6a := cell_keep (w := X.drew) z6 hba
                  have z4a := cell_keep (w := X.drew) z4 hba
                  have z5a := cell_keep (w := X.drew) z5 hba
                  refine hK.out _ _ ⟨z1a, z2a, z3a, z6a, z4a, z5a⟩ (fun hH => ?_)
                  clear hK K
                  try simp only [Act.put, List.setIfInBounds_toArray, List.set_cons_zero, List.set_cons_succ]
                  refine tkH 19 (v := ?_) rfl (fun _ _ _ h => h) (Or.inl ⟨by rfl, ?_⟩) hH ?_
                  rotate_left
                  · intro w9 hSw
                    try dsimp only at hSw
                    obtain ⟨s0, s1, s2, s3, s4, s5⟩ := hSw
                    go_simp
                    try with_reducible rfl
                  try simp only [Act.put, List.setIfInBounds_toArray, List.set_cons_zero, List.set_cons_succ]
                  refine tkH 20 (v := ?_) rfl (fun _ _ _ h => h) (Or.inl ⟨by rfl, ?_⟩) hH ?_
                  rotate_left
                  · intro w9 hSw
                    try dsimp only at hSw
                    obtain ⟨s0, s1, s2, s3, s4, s5⟩ := hSw
                    go_simp
                    try with_reducible rfl
                  try simp only [Act.put, List.setIfInBounds_toArray, List.set_cons_zero, List.set_cons_succ]
                  refine wpAnyH_ready (rs := [23]) (by kernel_rfl) (by simp) ?_
                  refine AllReadyH.cons rfl (fun K hK => ?_) AllReadyH.nil
                  go_simp
                  go_at_call 27
                  refine (spec_l01Dec tn _ (by omega)).mono ?_
                  rintro eb vb ⟨rfl, hbb⟩
                  have z1ab := cell_keep (w := va) z1a hbb
                  have z2ab := cell_keep (w := va) z2a hbb
                  have z3ab := cell_keep (w := va) z3a hbb
                  have z6ab := cell_keep (w := va) z6a hbb
                  have z4ab := cell_keep (w := va) z4a hbb
                  have z5ab := cell_keep (w := va) z5a hbb
                  refine hK.out _ _ ⟨z1ab, z2ab, z3ab, z6ab, z4ab, z5ab⟩ (fun hH => ?_)
                  clear hK K
                  try simp only [Act.put, List.setIfInBounds_toArray, List.set_cons_zero, List.set_cons_succ]
                  refine tkH 24 (v := ?_) rfl (fun _ _ _ h => h) (Or.inl ⟨by rfl, ?_⟩) hH ?_
                  rotate_left
                  · intro w9 hSw
                    try dsimp only at hSw
                    obtain ⟨s0, s1, s2, s3, s4, s5⟩ := hSw
                    go_simp
                    try with_reducible rfl
                  try simp only [Act.put, List.setIfInBounds_toArray, List.set_cons_zero, List.set_cons_succ]
                  refine tkH 25 (v := ?_) rfl (fun _ _ _ h => h) (Or.inl ⟨by rfl, ?_⟩) hH ?_
                  rotate_left
                  · intro w9 hSw
                    try dsimp only at hSw
                    obtain ⟨s0, s1, s2, s3, s4, s5⟩ := hSw
                    go_simp
                    try with_reducible rfl
                  try simp only [Act.put, List.setIfInBounds_toArray, List.set_cons_zero, List.set_cons_succ]
                  refine tkH 26 (v := ?_) rfl (fun _ _ _ h => h) (Or.inl ⟨by rfl, ?_⟩) hH ?_
                  rotate_left
                  · intro w9 hSw
                    try dsimp only at hSw
                    obtain ⟨s0, s1, s2, s3, s4, s5⟩ := hSw
                    go_simp
                    try with_reducible rfl
                  try simp only [Act.put, List.setIfInBounds_toArray, List.set_cons_zero, List.set_cons_succ]
                  refine wpAnyH_done (by kernel_rfl) ?_ _
                  have hB9 := hBX.trans ((hBd.trans ((hba.trans (hbb.mono hba.size)).mono hBd.size)).mono hsX)
                  go_wp2
                  go_roundw
                  case rel => exact ⟨k + 1, hlt, by go_num, by rw [hstep.out, hR0H.out, ← out_cart _ _ _ (by simp; exact ht0H.out), hg1H.out, hg2H.out], hB9⟩
                  case measure => simp [intOf] <;> omega
            · obtain rfl : k = gp.length := by omega
              have hall := outR_all gp N
              rw [hall]
              generalize printT gp N = PT at *
              by_cases hbig : 2000 < PT.size
              · have hF : Hid (((⟨#[]⟩ : ByteArray), (3 : Int)) = (T, C)) := by
                  have h := hrest2.out
                  rw [if_pos hbig] at h
                  exact h
                have hb' : (2000 : Int) < (PT.size : Int) := by omega
                clear hbig hrest2
                go_wp2
                go_ret2
                exact ⟨by cases hF.out; rfl, hBq.trans (hB.mono hBq.size)⟩
              · have hF : Hid ((PT, (0 : Int)) = (T, C)) := by
                  have h := hrest2.out
                  rw [if_neg hbig] at h
                  exact h
                have hb' : ¬ (2000 : Int) < (PT.size : Int) := by omega
                clear hbig hrest2
                go_wp2
                go_ret2
                exact ⟨by cases hF.out; rfl, hBq.trans (hB.mono hBq.size)⟩
end Go.Proofs.YtcoomogabicfnaaGreatDoor
