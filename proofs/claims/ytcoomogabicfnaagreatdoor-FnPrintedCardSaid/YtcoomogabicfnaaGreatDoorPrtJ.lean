/-
  The walk of the program's PrintText, the exported one.
-/
import Derived.Test.YtcoomogabicfnaaGreatDoorPrtI
namespace Go.Proofs.YtcoomogabicfnaaGreatDoor
open Go.RowKit
set_option linter.unusedVariables false
set_option linter.unusedSimpArgs false
theorem namesT_bad {ge : Int} {N : List ByteArray} {k : Nat} (hk : k < N.length) (h : nameOk N[k] = false ∨ 0 ≤ findStr (N.take k) N[k]) : namesOk ge N = false := by
  cases hn : namesOk ge N with
  | false => rfl
  | true =>
    obtain ⟨_, h1, h2⟩ := namesOk_parts hn
    rcases h with h | h
    · rw [h1 _ (List.getElem_mem hk)] at h
      cases h
    · have hr := (findStr_range (N.take k) N[k]).2
      have e : N[k] ∈ N.take k := by
        refine Classical.byContradiction fun hm => ?_
        rw [findStr_miss (N.take k) N[k] (fun j hj he => hm (he ▸ List.getElem_mem hj))] at h
        omega
      obtain ⟨j, hj, he⟩ := List.getElem_of_mem e
      rw [List.length_take] at hj
      rw [List.getElem_take] at he
      rw [List.nodup_iff_pairwise_ne, List.pairwise_iff_getElem] at h2
      exact absurd he (h2 j k (by omega) hk (by omega))
theorem namesT_all {N : List ByteArray} (h : ∀ j (hj : j < N.length), nameOk N[j] = true ∧ findStr (N.take j) N[j] < 0) : namesOk N.length N = true := by
  have h1 : N.all nameOk = true := by
    rw [List.all_eq_true]
    intro x hx
    obtain ⟨j, hj, rfl⟩ := List.getElem_of_mem hx
    exact (h j hj).1
  have h2 : N.Nodup := by
    rw [List.nodup_iff_pairwise_ne, List.pairwise_iff_getElem]
    intro i j hi hj hij he
    refine findStr_neg (h j hj).2 (he ▸ ?_)
    rw [List.mem_take_iff_getElem]
    exact ⟨i, by omega, rfl⟩
  simp [namesOk, h1, h2]
set_option maxHeartbeats 8000000 in
set_option maxRecDepth 100000 in
theorem impl_PrintText (v : Value) (ge : Int) (gp : List Place) (u : Value) (N : List ByteArray) (w : World) (h0 : Lst Place.cells 4 w w.heap.size v gp) (h1 : Lst strCell 1 w w.heap.size u N) (hT : TabOf w) (hN : Hid (∀ s ∈ N, s.size ≤ maxLen)) :
    Calls Tryz.prog 6 #[.agg #[.int .i64 ge, v], u] w fun r w' => r = .returned (.tuple #[.string (printF ge gp N).1, .int .i64 (printF ge gp N).2]) ∧ Below w.heap.size w w' := by
  obtain ⟨A, c, rfl⟩ := h0.shape
  obtain ⟨NA, nc, rfl⟩ := h1.shape
  have hnl := h1.len_le
  have hcap : N.length ≤ nc := by obtain ⟨_, _, A', c', hv, hc, _⟩ := h1; injection hv with _ _ hcc; omega
  obtain ⟨T, C, hF⟩ : ∃ T C, printF ge gp N = (T, C) := ⟨_, _, rfl⟩
  rw [hF]
  have hF := Lib.hid hF
  have hTall : Hid (∀ X, Below w.heap.size w X → TabOf X) := fun X h => hT.now h
  have hBx : Below w.heap.size w (w.alloc (.cells #[.int .i64 ge, .slice A gp.length c] 26)) := (Below.refl _ _).alloc (Nat.le_refl _) _
  have hbox := Blk.newAt w (t := 26) (cs := #[.int .i64 ge, .slice A gp.length c]) _ rfl
  replace h0 := h0.now hBx
  replace h1 := h1.now hBx
  obtain ⟨k0, k1⟩ := hbox.c2
  have l0 := hbox.lt
  clear hT
  go_enter Tryz.func6, Tryz.ntmps6
  go_wp2_with fail
  generalize w.alloc (.cells #[.int .i64 ge, .slice A gp.length c] 26) = W0 at *
  refine (impl_IsEventGraph _ _ _ _ h0).mono ?_
  rintro e w1 ⟨rfl, hB1⟩
  replace h0 := h0.now hB1
  replace h1 := h1.now hB1
  replace hbox := hbox.now hB1
  replace hB1 := hBx.trans (hB1.mono hBx.size)
  clear k0 k1 l0
  obtain ⟨k0, k1⟩ := hbox.c2
  have l0 := hbox.lt
  cases hq : okGraph ge gp with
  | false =>
    have hG : Hid ((⟨#[]⟩, 1) = (T, C)) := by
      show _ = _
      rw [← hF.out]
      unfold printF
      rw [if_pos hq]
    go_wp2
    go_ret2
    exact ⟨by cases hG.out; rfl, hB1⟩
  | true =>
    have hqH := Lib.hid hq
    clear hq
    by_cases hlen : (N.length : Int) = ge
    · subst hlen
      have hq0 : ((N.length : Int) != (N.length : Int)) = false := by simp
      have hws := hB1.size
      go_wp2
      clear k0 k1 l0
      go_loopw [6, 7, 20] (fun _ _ i wr => ∃ k : Nat, k ≤ N.length ∧ i = .int .i64 k ∧ Hid (∀ j (hj : j < k) (hl : j < N.length), nameOk N[j] = true ∧ findStr (N.take j) N[j] < 0) ∧ Below w1.heap.size w1 wr) (fun _ _ i _ => N.length - (intOf i).toNat)
      case atStart => exact ⟨0, Nat.zero_le _, rfl, fun j hj => absurd hj (by omega), Below.refl _ _⟩
      case round =>
        obtain ⟨k, hk, rfl, hA, hB⟩ := hrel
        by_cases hlt : k < N.length
        · obtain ⟨b, off, hNA, hb, c0⟩ := strs_at h1 k hlt
          replace c0 := cell_keep c0 hB
          have hsz : Hid (N[k].size ≤ maxLen) := hN.out _ (List.getElem_mem hlt)
          have hbad := Lib.hid (fun h => namesT_bad (ge := N.length) hlt h)
          have hgood : Hid (nameOk N[k] = true → findStr (N.take k) N[k] < 0 → ∀ j (hj : j < k + 1) (hl : j < N.length), nameOk N[j] = true ∧ findStr (N.take j) N[j] < 0) := by
            intro a1 a2 j hj hl2
            rcases Nat.lt_or_ge j k with h | h
            · exact hA.out j h hl2
            · obtain rfl : j = k := by omega
              exact ⟨a1, a2⟩
          have hbadF : Hid (namesOk N.length N = false → (⟨#[]⟩, 2) = (T, C)) := by
            intro h
            rw [← hF.out]
            unfold printF
            rw [if_neg (by rw [hqH.out]; simp), if_pos h]
          obtain ⟨x, hx⟩ : ∃ x, N[k] = x := ⟨_, rfl⟩
          rw [hx] at c0 hsz hbad hgood
          have i1 : (0 : Int) ≤ (k : Int) := by omega
          have i2 : (k : Int) < (N.length : Int) := by omega
          have i3 : k ≤ nc := by omega
          obtain ⟨B1, hB1'⟩ : ∃ B1, nameOk x = B1 := ⟨_, rfl⟩
          rw [hB1'] at hbad hgood
          have hB1H := Lib.hid hB1'
          clear hx hB1'
          cases B1 with
          | false =>
            have hG : Hid ((⟨#[]⟩, 2) = (T, C)) := hbadF.out (hbad.out (.inl rfl))
            subst hNA
            go_wp2_with (go_at_call 21; refine (impl_IsEventName _ _ hsz).mono ?_; rintro e w9 ⟨rfl, hB9⟩; rw [hB1H.out])
            go_ret2
            exact ⟨by cases hG.out; rfl, hB1.trans ((hB.trans (hB9.mono hB.size)).mono hws)⟩
          | true =>
            subst hNA
            go_wp2_with fail
            refine (impl_IsEventName _ _ hsz).mono ?_
            rintro e w9 ⟨rfl, hB9⟩
            rw [hB1H.out]
            replace c0 := cell_keep c0 hB9
            replace hB := hB.trans (hB9.mono hB.size)
            have hL := Lst.take (f := strCell) (fun _ => rfl) (h1.now hB) k (by omega)
            have hct := slices_Contains_str _ _ x _ hL
            clear hL
            by_cases hf : findStr (N.take k) x < 0
            · have hg2 := Lib.hid (hgood.out (by first | trivial | rfl) hf)
              have hq1 : decide (0 ≤ findStr (N.take k) x) = false := by simp; omega
              rw [hq1] at hct
              clear hf hgood hq1
              go_wp2_with (go_at_call 22; refine hct.mono ?_; rintro e w8 ⟨rfl, rfl⟩)
              go_roundw
              case rel => exact ⟨k + 1, hlt, by go_num, hg2, hB⟩
              case measure => simp [intOf] <;> omega
            · have hG : Hid ((⟨#[]⟩, 2) = (T, C)) := hbadF.out (hbad.out (.inr (by omega)))
              have hq1 : decide (0 ≤ findStr (N.take k) x) = true := by simp; omega
              rw [hq1] at hct
              clear hf hgood hq1
              go_wp2_with (go_at_call 22; refine hct.mono ?_; rintro e w8 ⟨rfl, rfl⟩)
              go_ret2
              exact ⟨by cases hG.out; rfl, hB1.trans (hB.mono hws)⟩
        · obtain rfl : k = N.length := by omega
          have hok : Hid (namesOk N.length N = true) := namesT_all (fun j hj => hA.out j hj hj)
          have hnm : Hid (∀ s ∈ N, nameOk s = true) := (namesOk_parts hok.out).2.1
          have hb2 := hbox.now hB
          obtain ⟨k0, k1⟩ := hb2.c2
          have l0 := hb2.lt
          replace h0 := h0.now hB
          replace h1 := h1.now hB
          replace hB := hB1.trans (hB.mono hws)
          go_wp2_with fail
          refine (impl_printText _ gp _ N _ h0 h1 (hTall.out _ hB) hqH hnm).mono ?_
          rintro e w9 ⟨rfl, hB9⟩
          replace hB9 := hB.trans (hB9.mono hB.size)
          have hrest : Hid (printF N.length gp N = if (loopsF gp N.length).all (fun i => decide (0 ≤ i)) = false then (⟨#[]⟩, 5) else if 2000 < (printT gp N).size then (⟨#[]⟩, 3) else (printT gp N, 0)) := by
            show _ = _
            unfold printF
            rw [if_neg (by rw [hqH.out]; simp), if_neg (by rw [hok.out]; simp)]
          have hrest := hrest.out.symm.trans hF.out
          obtain ⟨U, hU⟩ : ∃ U, (loopsF gp N.length).all (fun i => decide (0 ≤ i)) = U := ⟨_, rfl⟩
          rw [hU] at hrest ⊢
          clear hU
          obtain ⟨P, hP⟩ : ∃ P, printT gp N = P := ⟨_, rfl⟩
          rw [hP] at hrest ⊢
          have hPs : P.size ≤ 9223372036854775807 := by
            rw [← hP]
            have a1 := okGraph_ev hqH.out
            have a2 := okGraph_len hqH.out
            have a3 := outR_size hqH.out hnm.out (by omega) gp.length (by omega)
            rw [outR_all] at a3
            omega
          clear hP
          cases U with
          | false =>
            rw [if_pos rfl] at hrest
            have hrest := Lib.hid hrest
            go_wp2
            go_ret2
            exact ⟨by cases hrest.out; rfl, hB9⟩
          | true =>
            rw [if_neg (by simp)] at hrest
            by_cases hbig : 2000 < P.size
            · rw [if_pos hbig] at hrest
              have hrest := Lib.hid hrest
              have hbig2 : (2000 : Int) < (P.size : Int) := by omega
              go_wp2
              go_ret2
              exact ⟨by cases hrest.out; rfl, hB9⟩
            · rw [if_neg hbig] at hrest
              have hrest := Lib.hid hrest
              have hbig2 : ¬ (2000 : Int) < (P.size : Int) := by omega
              go_wp2
              go_ret2
              exact ⟨by cases hrest.out; rfl, hB9⟩
    · have hq0 : ((N.length : Int) != ge) = true := by simpa using hlen
      have hG : Hid ((⟨#[]⟩, 2) = (T, C)) := by
        show _ = _
        rw [← hF.out]
        unfold printF
        rw [if_neg (by rw [hqH.out]; simp), if_pos (by simp [namesOk, hlen])]
      go_wp2
      go_ret2
      exact ⟨by cases hG.out; rfl, hB1⟩
end Go.Proofs.YtcoomogabicfnaaGreatDoor
