/-
  Texts of runs, the reference's side.
-/
import Derived.Test.YtlppfcamlggcnaaDoorTxtI
namespace Go.Proofs.YtlppfcamlggcnaaDoor
open Go.RowKit
set_option linter.unusedVariables false
set_option linter.unusedSimpArgs false
theorem info_u8 : (Tryd.prog.info? 5).map (fun i => (i.zero, i.size, i.bytes)) = some (some (.int .u8 0), 1, 1) := by kernel_rfl
theorem byteCell_one : ∀ x, ∀ u ∈ byteCell x, u.oneCell' = true := by intro x u hu; simp [byteCell] at hu; subst hu; rfl
theorem joinTail_snoc (sep y : List UInt8) (r : List (List UInt8)) : Lib.joinTail sep (r ++ [y]) = Lib.joinTail sep r ++ (sep ++ y) := by simp [Lib.joinTail]
theorem join_snoc (sep : ByteArray) (l : List ByteArray) (y : ByteArray) : strI (joinB (l ++ [y]) sep) = strI (joinB l sep) ++ (if l = [] then [] else strI sep) ++ strI y := by
  cases l with
  | nil => simp [joinB, strI, Lib.join_one, Lib.join_nil]
  | cons a l =>
    simp only [joinB, strI, List.cons_append, List.map_cons, List.map_append, List.map_nil, Lib.join_cons, joinTail_snoc]
    simp
theorem strI_nil : strI (joinB [] ⟨#[32]⟩) = [] := by simp [joinB, Lib.join_nil, strI]
theorem strOfNums_strI (s : ByteArray) : strOfNums (strI s) = s := by
  apply ByteArray.ext
  unfold strOfNums strI
  have h : ((fun n : Int => UInt8.ofNat n.toNat) ∘ fun b : UInt8 => (b.toNat : Int)) = id := by
    funext b
    simp
  rw [List.map_map, h]
  simp
set_option maxHeartbeats 400000 in
set_option maxRecDepth 100000 in
theorem conv_row {w : World} {base : Nat} {u : Value} {s : ByteArray} (h : Own byteCell 1 5 w base u (strI s)) : (convert 22 9 u).run Tryd.prog w = .ok (.string s) w := by
  have hl := h.lst
  obtain ⟨X, c, rfl⟩ := h.shape
  cases X with
  | none =>
    have h0 := lst_none hl
    have : s = ByteArray.empty := by rw [← strOfNums_strI s, h0]; rfl
    rw [this]
    exact run_convert_bytes_nil w 22 5 Tryd.underlying22 Tryd.underlying5 _ c 9 Tryd.underlying9
  | some a =>
    by_cases hp : 0 < (strI s).length
    · obtain ⟨b, off, hA, -⟩ := bytes_at hl 0 hp
      obtain rfl : a = ⟨b, off, none⟩ := Option.some.inj hA
      have := run_convert_bytes_arg w 22 5 Tryd.underlying22 Tryd.underlying5 b off (strI s).length c (strI s) rfl (fun i hi => by
        obtain ⟨b', off', hA', hb', hc'⟩ := bytes_at hl i hi
        injection hA' with hA'
        injection hA' with h1 h2
        subst h1 h2
        simpa [List.getD, List.getElem?_eq_getElem hi] using hc') 9 Tryd.underlying9
      rw [strOfNums_strI] at this
      exact this
    · have h0 : strI s = [] := List.eq_nil_of_length_eq_zero (by omega)
      obtain ⟨b, off, fr⟩ := a
      have e : s = ByteArray.empty := by rw [← strOfNums_strI s, h0]; rfl
      rcases h.2 with ⟨hv, _⟩ | ⟨g, cap, cur, hv, _⟩
      · injection hv with h1 _ _
        cases h1
      · injection hv with h1 h2 h3
        injection h1 with h1
        rw [h1]
        have := run_convert_bytes_arg w 22 5 Tryd.underlying22 Tryd.underlying5 g 0 (strI s).length c (strI s) rfl (fun i hi => by omega) 9 Tryd.underlying9
        rw [strOfNums_strI] at this
        exact this
set_option maxHeartbeats 8000000 in
set_option maxRecDepth 100000 in
theorem spec_RunText (v : Value) (l : List Firing) (w : World) (h0 : Lst Firing.cells 3 w w.heap.size v l) :
    Calls Tryd.prog 27 #[v] w fun e w' => e = .returned (.string (runTextF l)) ∧ Below w.heap.size w w' := by
  obtain ⟨A, c, rfl⟩ := h0.shape
  by_cases h5 : l.length ≤ 500
  · have i5 : ¬ (500 : Int) < (l.length : Int) := by omega
    go_enter Tryd.func27, Tryd.ntmps27
    go_wp2
    go_loopw [3, 4] (fun u i wr => ∃ k : Nat, k ≤ l.length ∧ i = .int .i64 k ∧ Hid (∀ x ∈ l.take k, okT x = true) ∧ Own byteCell 1 5 wr w.heap.size u (strI (joinB ((l.take k).map partT) ⟨#[32]⟩)) ∧ Below w.heap.size w wr) (fun _ i _ => l.length - (intOf i).toNat)
    case atStart => exact ⟨0, Nat.zero_le _, rfl, fun x hx => absurd hx (by simp), by rw [List.take_zero, List.map_nil, strI_nil]; exact own_new0 _ _ _ _ _ (Nat.le_refl _), (Below.refl _ _).alloc (Nat.le_refl _) _⟩
    case round =>
      obtain ⟨k, hk, rfl, hN, hO, hB⟩ := hrel
      by_cases hlt : k < l.length
      · obtain ⟨b, off, rfl, hb, c0, c1, c2⟩ := firings_at h0 k hlt
        have hfm : l[k] ∈ l := List.getElem_mem _
        have htk : Hid (l.take (k + 1) = l.take k ++ [l[k]]) := by
          show _ = _
          rw [List.take_add_one, List.getElem?_eq_getElem hlt]
          rfl
        obtain ⟨f, hf⟩ : ∃ f, l[k] = f := ⟨_, rfl⟩
        rw [hf] at c0 c1 c2 hfm htk
        obtain ⟨hc, -⟩ := bcell hB
        replace c0 := (hc b _ hb).trans c0
        replace c1 := (hc b _ hb).trans c1
        replace c2 := (hc b _ hb).trans c2
        have hbad : Hid (okT f = false → runTextF l = ⟨#[]⟩) := by
          intro h
          refine if_neg (fun hh => ?_)
          have := List.all_eq_true.1 hh.2 f hfm
          rw [h] at this
          cases this
        have hsz : (joinB ((l.take k).map partT) ⟨#[32]⟩).size ≤ 500 * 2000004 := by
          have h1 := join_size (l := (l.take k).map partT) (sep := ⟨#[32]⟩) (N := 2000003) rfl (fun x hx => by
            obtain ⟨y, hy, rfl⟩ := List.mem_map.1 hx
            exact partT_size (hN.out y hy))
          have h2 : ((l.take k).map partT).length = k := by simp; omega
          rw [h2] at h1
          exact Nat.le_trans h1 (Nat.mul_le_mul_right _ (by omega))
        have hszH := Lib.hid hsz
        have hnl : Hid ((l.take k).map partT = [] ↔ k = 0) := by
          have h2 : ((l.take k).map partT).length = k := by simp; omega
          constructor
          · intro h
            rw [h] at h2
            simpa using h2.symm
          · rintro rfl
            simp
        have i1 : (0 : Int) ≤ (k : Int) := by omega
        have i2 : (k : Int) < (l.length : Int) := by omega
        clear hc hf hfm hsz
        obtain ⟨b1, hb1⟩ : ∃ b1, inB f.event 0 1000000 = b1 := ⟨_, rfl⟩
        obtain ⟨b2, hb2⟩ : ∃ b2, inB f.time 0 1000000 = b2 := ⟨_, rfl⟩
        have hb1H := Lib.hid hb1
        have hb2H := Lib.hid hb2
        clear hb1 hb2
        cases b1 with
        | false =>
          go_wp2_with (go_at_call 68; refine (spec_l01In _ _ _ _).mono ?_; rintro e w9 ⟨rfl, rfl⟩; rw [hb1H.out])
          go_ret
          exact ⟨by rw [hbad.out (by simp [okT, hb1H.out])]; rfl, hB⟩
        | true =>
          cases b2 with
          | false =>
            go_wp2_with (go_at_call 68; refine (spec_l01In _ _ _ _).mono ?_; rintro e w9 ⟨rfl, rfl⟩; (first | rw [hb1H.out] | rw [hb2H.out]))
            go_ret
            exact ⟨by rw [hbad.out (by simp [okT, hb2H.out])]; rfl, hB⟩
          | true =>
            have hok : okT f = true := by simp [okT, hb1H.out, hb2H.out]
            by_cases hk0 : k = 0
            · have k0 : ¬ 0 < k := by omega
              have hkH := Lib.hid hk0
              clear hk0
              go_wp2_with (go_at_call 68; refine (spec_l01In _ _ _ _).mono ?_; rintro e w9 ⟨rfl, rfl⟩; (first | rw [hb1H.out] | rw [hb2H.out]))
              have hLL : Hid (strI (joinB ((l.take k).map partT) ⟨#[32]⟩) ++ strI (partT f) = strI (joinB ((l.take (k + 1)).map partT) ⟨#[32]⟩)) := by
                show _ = _
                rw [htk.out, List.map_append, List.map_cons, List.map_nil, join_snoc, if_pos (hnl.out.2 hkH.out), List.append_nil]
              have hlen : Hid ((strI (joinB ((l.take k).map partT) ⟨#[32]⟩)).length ≤ 2000000000) := by
                show _ ≤ _
                rw [strI_len]
                have := hszH.out
                omega
              obtain ⟨⟨v1, v2⟩, v3, v4⟩ := okT_in hok
              have hps := partT_size hok
              obtain ⟨fe, fnr, ft⟩ := f
              dsimp only at v1 v2 v3 v4 c0 c2
              obtain ⟨ev, rfl⟩ := Int.eq_ofNat_of_zero_le v1
              obtain ⟨ti, rfl⟩ := Int.eq_ofNat_of_zero_le v3
              have hs1 := decB_size ev
              have hs2 := decB_size ti
              have z1 : ¬ 9223372036854775807 < (decB ev).size + 1 := by omega
              have z2 : ¬ 9223372036854775807 < (decB ev).size + 1 + (decB ti).size := by omega
              have hBd : Below wr.heap.size wr wr.drew := Below.drew (Below.refl _ wr)
              replace hO := hO.now hBd
              replace hB := hB.trans (hBd.mono hB.size)
              clear hBd hbad hb1H hb2H
              try clear c1
              replace c0 : wr.drew.cell? ⟨b, off + k * 3, none⟩ = some (.int .i64 ev) := c0
              replace c2 : wr.drew.cell? ⟨b, off + k * 3 + 2, none⟩ = some (.int .i64 ti) := c2
              refine wp_region_held_drew (S := fun w' => w'.cell? ⟨b, off + k * 3, none⟩ = some (.int .i64 ev) ∧ w'.cell? ⟨b, off + k * 3 + 2, none⟩ = some (.int .i64 ti)) (by kernel_rfl) ⟨c0, c2⟩ (fun hH => ?_)
              generalize wr.drew = V0 at *
              refine tkH 0 (v := ?_) rfl (fun _ _ _ h => h) (Or.inl ⟨by rfl, ?_⟩) hH ?_
              rotate_left
              · intro w9 hSw
                try dsimp only at hSw
                obtain ⟨s0, s1⟩ := hSw
                go_simp
                try with_reducible rfl
              try simp only [Act.put, List.setIfInBounds_toArray, List.set_cons_zero, List.set_cons_succ]
              refine tkH 1 (v := ?_) rfl (fun _ _ _ h => h) (Or.inl ⟨by rfl, ?_⟩) hH ?_
              rotate_left
              · intro w9 hSw
                try dsimp only at hSw
                obtain ⟨s0, s1⟩ := hSw
                go_simp
                try with_reducible rfl
              try simp only [Act.put, List.setIfInBounds_toArray, List.set_cons_zero, List.set_cons_succ]
              refine tkH 2 (v := ?_) rfl (fun _ _ _ h => h) (Or.inl ⟨by rfl, ?_⟩) hH ?_
              rotate_left
              · intro w9 hSw
                try dsimp only at hSw
                obtain ⟨s0, s1⟩ := hSw
                go_simp
                try with_reducible rfl
              try simp only [Act.put, List.setIfInBounds_toArray, List.set_cons_zero, List.set_cons_succ]
              refine tkH 3 (v := ?_) rfl (fun _ _ _ h => h) (Or.inl ⟨by rfl, ?_⟩) hH ?_
              rotate_left
              · intro w9 hSw
                try dsimp only at hSw
                obtain ⟨s0, s1⟩ := hSw
                go_simp
                try with_reducible rfl
              try simp only [Act.put, List.setIfInBounds_toArray, List.set_cons_zero, List.set_cons_succ]
              refine tkH 4 (v := ?_) rfl (fun _ _ _ h => h) (Or.inl ⟨by rfl, ?_⟩) hH ?_
              rotate_left
              · intro w9 hSw
                try dsimp only at hSw
                obtain ⟨s0, s1⟩ := hSw
                go_simp
                try with_reducible rfl
              try simp only [Act.put, List.setIfInBounds_toArray, List.set_cons_zero, List.set_cons_succ]
              refine tkH 5 (v := ?_) rfl (fun _ _ _ h => h) (Or.inl ⟨by rfl, ?_⟩) hH ?_
              rotate_left
              · intro w9 hSw
                try dsimp only at hSw
                obtain ⟨s0, s1⟩ := hSw
                go_simp
                try with_reducible rfl
              try simp only [Act.put, List.setIfInBounds_toArray, List.set_cons_zero, List.set_cons_succ]
              refine tkH 8 (v := ?_) rfl (fun _ _ _ h => h) (Or.inl ⟨by rfl, ?_⟩) hH ?_
              rotate_left
              · intro w9 hSw
                try dsimp only at hSw
                obtain ⟨s0, s1⟩ := hSw
                go_simp
                try with_reducible rfl
              try simp only [Act.put, List.setIfInBounds_toArray, List.set_cons_zero, List.set_cons_succ]
              refine tkH 9 (v := ?_) rfl (fun _ _ _ h => h) (Or.inl ⟨by rfl, ?_⟩) hH ?_
              rotate_left
              · intro w9 hSw
                try dsimp only at hSw
                obtain ⟨s0, s1⟩ := hSw
                go_simp
                try with_reducible rfl
              try simp only [Act.put, List.setIfInBounds_toArray, List.set_cons_zero, List.set_cons_succ]
              refine tkH 10 (v := ?_) rfl (fun _ _ _ h => h) (Or.inl ⟨by rfl, ?_⟩) hH ?_
              rotate_left
              · intro w9 hSw
                try dsimp only at hSw
                obtain ⟨s0, s1⟩ := hSw
                go_simp
                try with_reducible rfl
              try simp only [Act.put, List.setIfInBounds_toArray, List.set_cons_zero, List.set_cons_succ]
              refine tkH 11 (v := ?_) rfl (fun _ _ _ h => h) (Or.inl ⟨by rfl, ?_⟩) hH ?_
              rotate_left
              · intro w9 hSw
                try dsimp only at hSw
                obtain ⟨s0, s1⟩ := hSw
                go_simp
                try with_reducible rfl
              try simp only [Act.put, List.setIfInBounds_toArray, List.set_cons_zero, List.set_cons_succ]
              refine tkH 12 (v := ?_) rfl (fun _ _ _ h => h) (Or.inl ⟨by rfl, ?_⟩) hH ?_
              rotate_left
              · intro w9 hSw
                try dsimp only at hSw
                obtain ⟨s0, s1⟩ := hSw
                go_simp
                try with_reducible rfl
              try simp only [Act.put, List.setIfInBounds_toArray, List.set_cons_zero, List.set_cons_succ]
              refine wpAnyH_ready (rs := [6]) (by kernel_rfl) (by simp) ?_
              refine AllReadyH.cons rfl (fun K hK => ?_) AllReadyH.nil
              go_simp
              go_at_call 70
              refine (spec_l01Dec ev _ (by omega)).mono ?_
              rintro e9 wd ⟨rfl, hb9⟩
              have y0 := cell_keep (w := V0) c0 hb9
              have y2 := cell_keep (w := V0) c2 hb9
              replace hO := hO.now hb9
              replace hB := hB.trans (hb9.mono hB.size)
              clear hb9
              refine hK.out _ _ ⟨y0, y2⟩ (fun hH => ?_)
              clear hK K
              try simp only [Act.put, List.setIfInBounds_toArray, List.set_cons_zero, List.set_cons_succ]
              clear c0 c2
              have c0 := y0
              have c2 := y2
              clear y0 y2
              refine tkH 7 (v := ?_) rfl (fun _ _ _ h => h) (Or.inl ⟨by rfl, ?_⟩) hH ?_
              rotate_left
              · intro w9 hSw
                try dsimp only at hSw
                obtain ⟨s0, s1⟩ := hSw
                go_simp
                try with_reducible rfl
              try simp only [Act.put, List.setIfInBounds_toArray, List.set_cons_zero, List.set_cons_succ]
              refine wpAnyH_ready (rs := [13]) (by kernel_rfl) (by simp) ?_
              refine AllReadyH.cons rfl (fun K hK => ?_) AllReadyH.nil
              go_simp
              go_at_call 70
              refine (spec_l01Dec ti _ (by omega)).mono ?_
              rintro e9 we ⟨rfl, hb9⟩
              have y0 := cell_keep (w := wd) c0 hb9
              have y2 := cell_keep (w := wd) c2 hb9
              replace hO := hO.now hb9
              replace hB := hB.trans (hb9.mono hB.size)
              clear hb9
              refine hK.out _ _ ⟨y0, y2⟩ (fun hH => ?_)
              clear hK K
              try simp only [Act.put, List.setIfInBounds_toArray, List.set_cons_zero, List.set_cons_succ]
              clear c0 c2
              have c0 := y0
              have c2 := y2
              clear y0 y2
              refine tkH 14 (v := ?_) rfl (fun _ _ _ h => h) (Or.inl ⟨by rfl, ?_⟩) hH ?_
              rotate_left
              · intro w9 hSw
                try dsimp only at hSw
                obtain ⟨s0, s1⟩ := hSw
                go_simp
                try with_reducible rfl
              try simp only [Act.put, List.setIfInBounds_toArray, List.set_cons_zero, List.set_cons_succ]
              refine wpAnyH_ready (rs := [15]) (by kernel_rfl) (by simp) ?_
              refine AllReadyH.cons rfl (fun K hK => ?_) AllReadyH.nil
              refine step_append_str rfl _ _ 22 9 rfl w.heap.size 5 Tryd.underlying22 Tryd.underlying9 info_u8 _ _ rfl hO (partT ⟨ev, fnr, ti⟩) rfl (by have := hlen.out; omega) hB.size ?_
              intro u2 wf hO2 hG2
              have y0 := cell_kept c0 hG2 (fun e => by have := (hO.lt _ e).1; simp only at this; omega)
              have y2 := cell_kept c2 hG2 (fun e => by have := (hO.lt _ e).1; simp only at this; omega)
              replace hB := hB.grown hG2 hB.size (fun k hk => (hO.lt k hk).1)
              rw [hLL.out] at hO2
              clear hO hG2
              refine hK.out _ _ ⟨y0, y2⟩ (fun hH => ?_)
              clear hK K
              try simp only [Act.put, List.setIfInBounds_toArray, List.set_cons_zero, List.set_cons_succ]
              clear c0 c2
              have c0 := y0
              have c2 := y2
              clear y0 y2
              refine tkH 16 (v := ?_) rfl (fun _ _ _ h => h) (Or.inl ⟨by rfl, ?_⟩) hH ?_
              rotate_left
              · intro w9 hSw
                try dsimp only at hSw
                obtain ⟨s0, s1⟩ := hSw
                go_simp
                try with_reducible rfl
              try simp only [Act.put, List.setIfInBounds_toArray, List.set_cons_zero, List.set_cons_succ]
              refine wpAnyH_done (by kernel_rfl) ?_ _
              have hN2 : Hid (∀ x ∈ l.take (k + 1), okT x = true) := by
                intro x hx
                rw [htk.out] at hx
                rcases List.mem_append.1 hx with hx | hx
                · exact hN.out x hx
                · rw [List.mem_singleton.1 hx]
                  exact hok
              go_wp2
              go_roundw
              case rel => exact ⟨k + 1, hlt, by go_num, hN2, hO2, hB⟩
              case measure => simp [intOf]; omega
            · have k0 : 0 < k := by omega
              clear hk0
              have hs1 : (strI (joinB ((l.take k).map partT) ⟨#[32]⟩)).length + [(32 : Int)].length ≤ 1099511627776 := by
                rw [strI_len]
                have := hszH.out
                show _ + 1 ≤ _
                omega
              go_wp2_with (first | (go_at_call 68; refine (spec_l01In _ _ _ _).mono ?_; rintro e w9 ⟨rfl, rfl⟩; (first | rw [hb1H.out] | rw [hb2H.out])) | (at_builtin; refine wpList_append_lst rfl _ _ 22 rfl byteCell 1 byteCell_one (by omega) w.heap.size 5 _ 1 Tryd.underlying22 info_u8 rfl _ _ rfl (hO.alloc _) _ _ _ _ [32] rfl (lst_new1 byteCell 1 byteCell_len _ _ _ _ rfl _ (by simp)) hs1 (by omega) (Nat.le_trans hB.size (by simp)) ?_; intro v' w9 hO1 hG1 hD1))
              have hLL : Hid ((strI (joinB ((l.take k).map partT) ⟨#[32]⟩) ++ [32]) ++ strI (partT f) = strI (joinB ((l.take (k + 1)).map partT) ⟨#[32]⟩)) := by
                show _ = _
                rw [htk.out, List.map_append, List.map_cons, List.map_nil, join_snoc, if_neg (fun h => by have := hnl.out.1 h; omega)]
                rfl
              have hlen : Hid ((strI (joinB ((l.take k).map partT) ⟨#[32]⟩) ++ [32]).length ≤ 2000000000) := by
                show _ ≤ _
                rw [List.length_append, strI_len]
                have := hszH.out
                show _ + 1 ≤ _
                omega
              have hA : Below wr.heap.size wr (wr.alloc (.cells #[.int .u8 32] 5)) := (Below.refl _ _).alloc (Nat.le_refl _) _
              replace c0 := cell_kept (cell_keep c0 hA) hG1 (fun e => by have := (hO.lt _ e).1; simp only at this; omega)
              replace c2 := cell_kept (cell_keep c2 hA) hG1 (fun e => by have := (hO.lt _ e).1; simp only at this; omega)
              replace hB := (hB.trans (hA.mono hB.size)).grown hG1 (hB.trans (hA.mono hB.size)).size (fun k hk => (hO.lt k hk).1)
              clear hO hG1 hD1 hA c1 hs1
              have hO := hO1
              clear hO1
              obtain ⟨⟨v1, v2⟩, v3, v4⟩ := okT_in hok
              have hps := partT_size hok
              obtain ⟨fe, fnr, ft⟩ := f
              dsimp only at v1 v2 v3 v4 c0 c2
              obtain ⟨ev, rfl⟩ := Int.eq_ofNat_of_zero_le v1
              obtain ⟨ti, rfl⟩ := Int.eq_ofNat_of_zero_le v3
              have hs1 := decB_size ev
              have hs2 := decB_size ti
              have z1 : ¬ 9223372036854775807 < (decB ev).size + 1 := by omega
              have z2 : ¬ 9223372036854775807 < (decB ev).size + 1 + (decB ti).size := by omega
              have hBd : Below w9.heap.size w9 w9.drew := Below.drew (Below.refl _ w9)
              replace hO := hO.now hBd
              replace hB := hB.trans (hBd.mono hB.size)
              clear hBd hbad hb1H hb2H
              replace c0 : w9.drew.cell? ⟨b, off + k * 3, none⟩ = some (.int .i64 ev) := c0
              replace c2 : w9.drew.cell? ⟨b, off + k * 3 + 2, none⟩ = some (.int .i64 ti) := c2
              refine wp_region_held_drew (S := fun w' => w'.cell? ⟨b, off + k * 3, none⟩ = some (.int .i64 ev) ∧ w'.cell? ⟨b, off + k * 3 + 2, none⟩ = some (.int .i64 ti)) (by kernel_rfl) ⟨c0, c2⟩ (fun hH => ?_)
              generalize w9.drew = V0 at *
              refine tkH 0 (v := ?_) rfl (fun _ _ _ h => h) (Or.inl ⟨by rfl, ?_⟩) hH ?_
              rotate_left
              · intro w9 hSw
                try dsimp only at hSw
                obtain ⟨s0, s1⟩ := hSw
                go_simp
                try with_reducible rfl
              try simp only [Act.put, List.setIfInBounds_toArray, List.set_cons_zero, List.set_cons_succ]
              refine tkH 1 (v := ?_) rfl (fun _ _ _ h => h) (Or.inl ⟨by rfl, ?_⟩) hH ?_
              rotate_left
              · intro w9 hSw
                try dsimp only at hSw
                obtain ⟨s0, s1⟩ := hSw
                go_simp
                try with_reducible rfl
              try simp only [Act.put, List.setIfInBounds_toArray, List.set_cons_zero, List.set_cons_succ]
              refine tkH 2 (v := ?_) rfl (fun _ _ _ h => h) (Or.inl ⟨by rfl, ?_⟩) hH ?_
              rotate_left
              · intro w9 hSw
                try dsimp only at hSw
                obtain ⟨s0, s1⟩ := hSw
                go_simp
                try with_reducible rfl
              try simp only [Act.put, List.setIfInBounds_toArray, List.set_cons_zero, List.set_cons_succ]
              refine tkH 3 (v := ?_) rfl (fun _ _ _ h => h) (Or.inl ⟨by rfl, ?_⟩) hH ?_
              rotate_left
              · intro w9 hSw
                try dsimp only at hSw
                obtain ⟨s0, s1⟩ := hSw
                go_simp
                try with_reducible rfl
              try simp only [Act.put, List.setIfInBounds_toArray, List.set_cons_zero, List.set_cons_succ]
              refine tkH 4 (v := ?_) rfl (fun _ _ _ h => h) (Or.inl ⟨by rfl, ?_⟩) hH ?_
              rotate_left
              · intro w9 hSw
                try dsimp only at hSw
                obtain ⟨s0, s1⟩ := hSw
                go_simp
                try with_reducible rfl
              try simp only [Act.put, List.setIfInBounds_toArray, List.set_cons_zero, List.set_cons_succ]
              refine tkH 5 (v := ?_) rfl (fun _ _ _ h => h) (Or.inl ⟨by rfl, ?_⟩) hH ?_
              rotate_left
              · intro w9 hSw
                try dsimp only at hSw
                obtain ⟨s0, s1⟩ := hSw
                go_simp
                try with_reducible rfl
              try simp only [Act.put, List.setIfInBounds_toArray, List.set_cons_zero, List.set_cons_succ]
              refine tkH 8 (v := ?_) rfl (fun _ _ _ h => h) (Or.inl ⟨by rfl, ?_⟩) hH ?_
              rotate_left
              · intro w9 hSw
                try dsimp only at hSw
                obtain ⟨s0, s1⟩ := hSw
                go_simp
                try with_reducible rfl
              try simp only [Act.put, List.setIfInBounds_toArray, List.set_cons_zero, List.set_cons_succ]
              refine tkH 9 (v := ?_) rfl (fun _ _ _ h => h) (Or.inl ⟨by rfl, ?_⟩) hH ?_
              rotate_left
              · intro w9 hSw
                try dsimp only at hSw
                obtain ⟨s0, s1⟩ := hSw
                go_simp
                try with_reducible rfl
              try simp only [Act.put, List.setIfInBounds_toArray, List.set_cons_zero, List.set_cons_succ]
              refine tkH 10 (v := ?_) rfl (fun _ _ _ h => h) (Or.inl ⟨by rfl, ?_⟩) hH ?_
              rotate_left
              · intro w9 hSw
                try dsimp only at hSw
                obtain ⟨s0, s1⟩ := hSw
                go_simp
                try with_reducible rfl
              try simp only [Act.put, List.setIfInBounds_toArray, List.set_cons_zero, List.set_cons_succ]
              refine tkH 11 (v := ?_) rfl (fun _ _ _ h => h) (Or.inl ⟨by rfl, ?_⟩) hH ?_
              rotate_left
              · intro w9 hSw
                try dsimp only at hSw
                obtain ⟨s0, s1⟩ := hSw
                go_simp
                try with_reducible rfl
              try simp only [Act.put, List.setIfInBounds_toArray, List.set_cons_zero, List.set_cons_succ]
              refine tkH 12 (v := ?_) rfl (fun _ _ _ h => h) (Or.inl ⟨by rfl, ?_⟩) hH ?_
              rotate_left
              · intro w9 hSw
                try dsimp only at hSw
                obtain ⟨s0, s1⟩ := hSw
                go_simp
                try with_reducible rfl
              try simp only [Act.put, List.setIfInBounds_toArray, List.set_cons_zero, List.set_cons_succ]
              refine wpAnyH_ready (rs := [6]) (by kernel_rfl) (by simp) ?_
              refine AllReadyH.cons rfl (fun K hK => ?_) AllReadyH.nil
              go_simp
              go_at_call 70
              refine (spec_l01Dec ev _ (by omega)).mono ?_
              rintro e9 wd ⟨rfl, hb9⟩
              have y0 := cell_keep (w := V0) c0 hb9
              have y2 := cell_keep (w := V0) c2 hb9
              replace hO := hO.now hb9
              replace hB := hB.trans (hb9.mono hB.size)
              clear hb9
              refine hK.out _ _ ⟨y0, y2⟩ (fun hH => ?_)
              clear hK K
              try simp only [Act.put, List.setIfInBounds_toArray, List.set_cons_zero, List.set_cons_succ]
              clear c0 c2
              have c0 := y0
              have c2 := y2
              clear y0 y2
              refine tkH 7 (v := ?_) rfl (fun _ _ _ h => h) (Or.inl ⟨by rfl, ?_⟩) hH ?_
              rotate_left
              · intro w9 hSw
                try dsimp only at hSw
                obtain ⟨s0, s1⟩ := hSw
                go_simp
                try with_reducible rfl
              try simp only [Act.put, List.setIfInBounds_toArray, List.set_cons_zero, List.set_cons_succ]
              refine wpAnyH_ready (rs := [13]) (by kernel_rfl) (by simp) ?_
              refine AllReadyH.cons rfl (fun K hK => ?_) AllReadyH.nil
              go_simp
              go_at_call 70
              refine (spec_l01Dec ti _ (by omega)).mono ?_
              rintro e9 we ⟨rfl, hb9⟩
              have y0 := cell_keep (w := wd) c0 hb9
              have y2 := cell_keep (w := wd) c2 hb9
              replace hO := hO.now hb9
              replace hB := hB.trans (hb9.mono hB.size)
              clear hb9
              refine hK.out _ _ ⟨y0, y2⟩ (fun hH => ?_)
              clear hK K
              try simp only [Act.put, List.setIfInBounds_toArray, List.set_cons_zero, List.set_cons_succ]
              clear c0 c2
              have c0 := y0
              have c2 := y2
              clear y0 y2
              refine tkH 14 (v := ?_) rfl (fun _ _ _ h => h) (Or.inl ⟨by rfl, ?_⟩) hH ?_
              rotate_left
              · intro w9 hSw
                try dsimp only at hSw
                obtain ⟨s0, s1⟩ := hSw
                go_simp
                try with_reducible rfl
              try simp only [Act.put, List.setIfInBounds_toArray, List.set_cons_zero, List.set_cons_succ]
              refine wpAnyH_ready (rs := [15]) (by kernel_rfl) (by simp) ?_
              refine AllReadyH.cons rfl (fun K hK => ?_) AllReadyH.nil
              refine step_append_str rfl _ _ 22 9 rfl w.heap.size 5 Tryd.underlying22 Tryd.underlying9 info_u8 _ _ rfl hO (partT ⟨ev, fnr, ti⟩) rfl (by have := hlen.out; omega) hB.size ?_
              intro u2 wf hO2 hG2
              have y0 := cell_kept c0 hG2 (fun e => by have := (hO.lt _ e).1; simp only at this; omega)
              have y2 := cell_kept c2 hG2 (fun e => by have := (hO.lt _ e).1; simp only at this; omega)
              replace hB := hB.grown hG2 hB.size (fun k hk => (hO.lt k hk).1)
              rw [hLL.out] at hO2
              clear hO hG2
              refine hK.out _ _ ⟨y0, y2⟩ (fun hH => ?_)
              clear hK K
              try simp only [Act.put, List.setIfInBounds_toArray, List.set_cons_zero, List.set_cons_succ]
              clear c0 c2
              have c0 := y0
              have c2 := y2
              clear y0 y2
              refine tkH 16 (v := ?_) rfl (fun _ _ _ h => h) (Or.inl ⟨by rfl, ?_⟩) hH ?_
              rotate_left
              · intro w9 hSw
                try dsimp only at hSw
                obtain ⟨s0, s1⟩ := hSw
                go_simp
                try with_reducible rfl
              try simp only [Act.put, List.setIfInBounds_toArray, List.set_cons_zero, List.set_cons_succ]
              refine wpAnyH_done (by kernel_rfl) ?_ _
              have hN2 : Hid (∀ x ∈ l.take (k + 1), okT x = true) := by
                intro x hx
                rw [htk.out] at hx
                rcases List.mem_append.1 hx with hx | hx
                · exact hN.out x hx
                · rw [List.mem_singleton.1 hx]
                  exact hok
              go_wp2
              go_roundw
              case rel => exact ⟨k + 1, hlt, by go_num, hN2, hO2, hB⟩
              case measure => simp [intOf]; omega
      · obtain rfl : k = l.length := by omega
        have hall : l.all okT = true := by
          rw [List.all_eq_true]
          intro x hx
          exact hN.out x (by rw [List.take_length]; exact hx)
        have hE : Hid (runTextF l = joinB (l.map partT) ⟨#[32]⟩) := if_pos ⟨h5, hall⟩
        rw [List.take_length] at hO
        have hcv := conv_row hO
        obtain ⟨X, cx, rfl⟩ := hO.shape
        have i3 : ¬ (l.length : Int) < (l.length : Int) := by omega
        go_wp2
        go_ret
        exact ⟨by rw [hE.out]; rfl, hB⟩
  · have hE : Hid (runTextF l = ⟨#[]⟩) := if_neg (fun h => h5 h.1)
    have i5 : (500 : Int) < (l.length : Int) := by omega
    rw [hE.out]
    go_enter Tryd.func27, Tryd.ntmps27
    go_wp2
    go_ret
    exact ⟨rfl, Below.refl _ _⟩
end Go.Proofs.YtlppfcamlggcnaaDoor
