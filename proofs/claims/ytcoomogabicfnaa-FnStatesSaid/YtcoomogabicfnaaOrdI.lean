/-
  The firing order, the program's; FiringOrder, both.
-/
import Derived.Test.YtcoomogabicfnaaOrdH
namespace Go.Proofs.Ytcoomogabicfnaa
open Go.RowKit
set_option linter.unusedVariables false
set_option linter.unusedSimpArgs false


set_option maxHeartbeats 400000 in
set_option maxRecDepth 100000 in
theorem fo1_index (c1 : Value) (c2 : Value) (v : Value) (l : List Place) (F : Place → Bool) (w : World) (h0 : Lst Place.cells 4 w w.heap.size v l)
    (hclo : ∀ (p : Place) (W : World), Below w.heap.size w W → Calls Try.prog 74 #[.agg #[.int .i64 p.src, .int .i64 p.dst, .int .i64 p.delay, .int .i64 p.tokens], c1, c2] W fun e W' => e = .returned (.bool (F p)) ∧ Below W.heap.size W W') :
    Calls Try.prog 71 #[v, .func (.func 74) #[] #[c1, c2]] w fun e w' => e = .returned (.int .i64 (idxP F l)) ∧ Below w.heap.size w w' := by
  obtain ⟨A, c, rfl⟩ := h0.shape
  have hl := h0.len_le
  have hC := Lib.hid hclo
  clear hclo
  go_enter Try.func71, Try.ntmps71
  go_wp2
  go_loopw [5, 8] (fun _ i wr => ∃ k : Nat, k ≤ l.length ∧ i = .int .i64 k ∧ Hid (∀ j (hj : j < k) (hl : j < l.length), F l[j] = false) ∧ Below w.heap.size w wr) (fun _ i _ => l.length - (intOf i).toNat)
  case atStart => exact ⟨0, Nat.zero_le _, rfl, fun j hj => absurd hj (by omega), Below.refl _ _⟩
  case round =>
    obtain ⟨k, hk, rfl, hN, hB⟩ := hrel
    by_cases hlt : k < l.length
    · obtain ⟨b, off, rfl, hb, d0, d1, d2, d3⟩ := places_at h0 k hlt
      obtain ⟨hc, hf⟩ := bcell hB
      cases heq : F l[k]
      · have hN' : Hid (∀ j (hj : j < k + 1) (hl : j < l.length), F l[j] = false) := by
          intro j hj hl2
          rcases Nat.lt_or_ge j k with h | h
          · exact hN.out j h hl2
          · obtain rfl : j = k := by omega
            exact heq
        go_wp2_with (go_at_call 74; refine (hC.out l[k] _ hB).mono ?_; rintro e w1 ⟨rfl, hb1⟩)
        go_roundw
        case rel => exact ⟨k + 1, hlt, by go_num, hN', hB.trans (hb1.mono hB.size)⟩
        case measure => simp [intOf]; omega
      · have hF : Hid (idxP F l = k) := idxP_hit F l k hlt (fun j hj => hN.out j hj (by omega)) heq
        go_wp2_with (go_at_call 74; refine (hC.out l[k] _ hB).mono ?_; rintro e w1 ⟨rfl, hb1⟩)
        go_ret
        exact ⟨ret_int hF.out.symm, hB.trans (hb1.mono hB.size)⟩
    · obtain rfl : k = l.length := by omega
      have hF : Hid (idxP F l = -1) := idxP_miss F l fun j hj => hN.out j hj hj
      go_wp2
      go_ret
      exact ⟨ret_int hF.out.symm, hB⟩

set_option maxHeartbeats 400000 in
set_option maxRecDepth 100000 in
theorem fo1_contains (c1 : Value) (c2 : Value) (v : Value) (l : List Place) (F : Place → Bool) (w : World) (h0 : Lst Place.cells 4 w w.heap.size v l)
    (hclo : ∀ (p : Place) (W : World), Below w.heap.size w W → Calls Try.prog 74 #[.agg #[.int .i64 p.src, .int .i64 p.dst, .int .i64 p.delay, .int .i64 p.tokens], c1, c2] W fun e W' => e = .returned (.bool (F p)) ∧ Below W.heap.size W W') :
    Calls Try.prog 47 #[v, .func (.func 74) #[] #[c1, c2]] w fun e w' => e = .returned (.bool (l.any F)) ∧ Below w.heap.size w w' := by
  have hC := Lib.hid hclo
  clear hclo
  go_enter Try.func47, Try.ntmps47
  go_wp2_with (go_at_call 71; refine (fo1_index _ _ _ _ F _ h0 hC.out).mono ?_; rintro e w1 ⟨rfl, hb1⟩)
  go_ret
  exact ⟨ret_bool (idxP_any F l), hb1⟩
theorem waits_any (gp : List Place) (o : List Int) (e : Int) : (gp.any fun p => p.dst == e && p.tokens == 0 && !hasI o p.src) = waitsO gp o e := by
  unfold waitsO
  congr 1
  funext p
  rw [hasI_contains]
set_option maxHeartbeats 4000000 in
set_option maxRecDepth 100000 in
theorem impl_firingOrder1 (p : Place) (e : Int) (eb ob : Nat) (ov : Value) (o : List Int) (W : World) (he : W.cell? ⟨eb, 0, none⟩ = some (.int .i64 e)) (hc : W.cell? ⟨ob, 0, none⟩ = some ov) (hL : Lst intCell 1 W W.heap.size ov o) :
    Calls Try.prog 74 #[.agg #[.int .i64 p.src, .int .i64 p.dst, .int .i64 p.delay, .int .i64 p.tokens], .pointer (some ⟨eb, 0, none⟩), .pointer (some ⟨ob, 0, none⟩)] W fun r W' => r = .returned (.bool (p.dst == e && p.tokens == 0 && !hasI o p.src)) ∧ Below W.heap.size W W' := by
  obtain ⟨A, c, rfl⟩ := hL.shape
  obtain ⟨sv, dv, del, tk⟩ := p
  have l1 := World.block_lt_of_cell? W _ he
  have l2 := World.block_lt_of_cell? W _ hc
  simp only at l1 l2
  by_cases h1 : dv = e
  · have q1 : (dv == e) = true := by simp [h1]
    by_cases h2 : tk = 0
    · have q2 : (tk == 0) = true := by simp [h2]
      go_enter Try.func74, Try.ntmps74
      clear h1 h2
      go_wp2_with (go_at_call 73; refine (slices_Contains_i64 _ _ _ _ (hL.alloc _)).mono ?_; rintro e w5 ⟨rfl, rfl⟩)
      go_ret
      exact ⟨ret_bool (by simp [q1, q2]), (by repeat (first | exact Below.refl _ _ | assumption | refine Below.drew ?_ | refine Below.alloc ?_ (by simp <;> omega) _ | refine Below.setCell ?_ (by simp <;> omega) _))⟩
    · have q2 : (tk == 0) = false := by simpa using h2
      go_enter Try.func74, Try.ntmps74
      clear h1 h2
      go_wp2
      go_ret
      exact ⟨ret_bool (by simp [q1, q2]), (by repeat (first | exact Below.refl _ _ | assumption | refine Below.drew ?_ | refine Below.alloc ?_ (by simp <;> omega) _ | refine Below.setCell ?_ (by simp <;> omega) _))⟩
  · have q1 : (dv == e) = false := by simpa using h1
    go_enter Try.func74, Try.ntmps74
    clear h1
    go_wp2
    go_ret
    exact ⟨ret_bool (by simp [q1]), (by repeat (first | exact Below.refl _ _ | assumption | refine Below.drew ?_ | refine Below.alloc ?_ (by simp <;> omega) _ | refine Below.setCell ?_ (by simp <;> omega) _))⟩
theorem blk_c1 {w : World} {g : Nat} {t : TypeId} {a : Value} (h : Blk w g t #[a]) : w.cell? ⟨g, 0, none⟩ = some a := by simpa using h.cell 0
theorem blk_set1 {w : World} {g : Nat} {t : TypeId} {a : Value} (h : Blk w g t #[a]) (u : Value) : Blk (w.setCell ⟨g, 0, none⟩ u) g t #[u] := by simpa using h.set_ 0 u
def boxLen (w : World) (b : Nat) : Nat := match w.cell? ⟨b, 0, none⟩ with
  | some (.slice _ n _) => n
  | _ => 0
theorem boxLen_of {w : World} {b : Nat} {A : Option Addr} {n c : Nat} (h : w.cell? ⟨b, 0, none⟩ = some (.slice A n c)) : boxLen w b = n := by simp [boxLen, h]
def atInt (w : World) : Value → Nat
  | .pointer (some a) => match w.cell? a with
    | some (.int _ z) => z.toNat
    | _ => 0
  | _ => 0
theorem atInt_of {w : World} {b j : Nat} (h : w.cell? ⟨b, 0, none⟩ = some (.int .i64 (j : Int))) : atInt w (.pointer (some ⟨b, 0, none⟩)) = j := by simp [atInt, h]
set_option maxHeartbeats 8000000 in
set_option maxRecDepth 100000 in
theorem impl_firingOrder (v : Value) (n : Nat) (gp : List Place) (w : World) (h0 : Lst Place.cells 4 w w.heap.size v gp) (hok : Hid (okGraph n gp = true)) :
    Calls Try.prog 50 #[.agg #[.int .i64 n, v]] w (RetOwnB intCell 1 2 w ((orderF n gp).getD []) (orderF n gp).isSome) := by
  obtain ⟨A, c, rfl⟩ := h0.shape
  obtain ⟨hge1, hge2⟩ := okGraph_ev hok.out
  have hgl := okGraph_len hok.out
  go_enter Try.func50, Try.ntmps50
  go_wp2
  have hW : Below w.heap.size w (w.alloc (.cells #[.int .i64 n, .slice A gp.length c] 26)) := (Below.refl _ _).alloc (Nat.le_refl _) _
  have hb0 : Blk (w.alloc (.cells #[.int .i64 n, .slice A gp.length c] 26)) w.heap.size 26 #[.int .i64 n, .slice A gp.length c] := Blk.new _ _ _
  have hs0 : Hid ((w.alloc (.cells #[.int .i64 n, .slice A gp.length c] 26)).heap.size = w.heap.size + 1) := by show _ = _; simp
  generalize w.alloc (.cells #[.int .i64 n, .slice A gp.length c] 26) = W at *
  have hX : Below W.heap.size W (W.alloc (.cells #[.slice none 0 0] 50)) := (Below.refl _ _).alloc (Nat.le_refl _) _
  have hbo : Blk (W.alloc (.cells #[.slice none 0 0] 50)) (w.heap.size + 1) 50 #[.slice none 0 0] := Blk.newAt W _ hs0.out
  have hXs : Hid ((W.alloc (.cells #[.slice none 0 0] 50)).heap.size = w.heap.size + 2) := by show _ = _; simp [hs0.out]
  replace hW := hW.trans (hX.mono hW.size)
  replace hb0 := hb0.now hX
  clear hX hs0
  generalize W.alloc (.cells #[.slice none 0 0] 50) = X at *
  have hXs2 := hXs.out
  replace h0 := Lst.below h0 hW (Nat.le_refl _)
  go_loopw [5, 6, 7] (fun _ _ _ wr => ∃ (k : Nat) (o' : List Int) (Y : Option Addr) (cy : Nat), k ≤ n ∧ Hid (orderK n gp k = some o') ∧ Blk wr (w.heap.size + 1) 50 #[.slice Y k cy] ∧ Own intCell 1 2 wr X.heap.size (.slice Y k cy) o' ∧ Below (w.heap.size + 1) X wr ∧ X.heap.size ≤ wr.heap.size) (fun _ _ _ wr => n - boxLen wr (w.heap.size + 1))
  case atStart => exact ⟨0, [], _, _, Nat.zero_le _, rfl, hbo, Own.nil, Below.refl _ _, Nat.le_refl _⟩
  case round =>
    clear hbo
    obtain ⟨k, o', Y, cy, hk, hK, hbo, hO, hB1, hs⟩ := hrel
    obtain ⟨wo, hwo⟩ : ∃ x, x = wr := ⟨_, rfl⟩
    subst hwo
    have hlo := (orderK_ok k o' hK.out).len
    have hgb := hb0.below hB1 (by omega)
    obtain ⟨k0, k1⟩ := hgb.c2
    have l0 := hgb.lt
    have b0 : wo.cell? ⟨w.heap.size + 1, 0, none⟩ = some (.slice Y k cy) := by simpa using hbo.cell 0
    have b1 := hbo.lt
    have hbl := boxLen_of b0
    have h0r : Lst Place.cells 4 wo wo.heap.size (.slice A gp.length c) gp := (Lst.below h0 hB1 (by omega)).more (by omega)
    by_cases hlt : k < n
    · have hE0 : Below wo.heap.size wo (wo.alloc (.cells #[.int .i64 0] 2)) := (Below.refl _ _).alloc (Nat.le_refl _) _
      have hbe : Blk (wo.alloc (.cells #[.int .i64 0] 2)) wo.heap.size 2 #[.int .i64 (0 : Nat)] := Blk.newAt wo _ rfl
      go_wp2
      clear k0 k1 l0 b0
      go_loopw [5, 6, 7] (fun nv ev _ wr => ∃ (j eb : Nat), j ≤ n ∧ ev = .pointer (some ⟨eb, 0, none⟩) ∧ Blk wr eb 2 #[.int .i64 j] ∧ wo.heap.size ≤ eb ∧ Below wo.heap.size wo wr ∧ ((nv = .int .i64 (-1) ∧ Hid (∀ x, x < j → readyO gp o' (x : Int) = false)) ∨ ∃ e : Nat, nv = .int .i64 e ∧ Hid (nextO n gp o' = some e))) (fun _ ev _ wr => n - atInt wr ev)
      case atStart => exact ⟨0, _, Nat.zero_le _, rfl, hbe, Nat.le_refl _, hE0, .inl ⟨rfl, fun x q => absurd q (by omega)⟩⟩
      case round =>
        clear hbe hE0
        obtain ⟨j, eb, hj, rfl, hbe, hbm, hB2, hnx⟩ := hrel
        have e0 : wr.cell? ⟨eb, 0, none⟩ = some (.int .i64 j) := by simpa using hbe.cell 0
        have e1 := hbe.lt
        have e2 := hbe.frozen 0
        have hei := atInt_of e0
        have hs2 := hB2.size
        obtain ⟨k0, k1⟩ := (hgb.now hB2).c2
        have l0 := (hgb.now hB2).lt
        have hbo2 := hbo.now hB2
        have b0 : wr.cell? ⟨w.heap.size + 1, 0, none⟩ = some (.slice Y k cy) := by simpa using hbo2.cell 0
        have b2 := hbo2.lt
        have b3 := hbo2.frozen 0
        have hO2 := hO.now hB2
        have n1 : eb ≠ w.heap.size + 1 := by omega
        have n2 : w.heap.size + 1 ≠ eb := by omega
        have n3 : eb ≠ w.heap.size := by omega
        have n4 : wr.heap.size ≠ w.heap.size + 1 := by omega
        have n5 : wr.heap.size ≠ w.heap.size := by omega
        have hcast : ((j + 1 : Nat) : Int) = (j : Int) + 1 := by omega
        have hBt := hB1.trans (hB2.mono (show w.heap.size + 1 ≤ wo.heap.size by omega))
        have hBw := hW.trans (hBt.mono (show w.heap.size ≤ w.heap.size + 1 by omega))
        have h0w := h0r.now hB2
        rcases hnx with ⟨rfl, hN⟩ | ⟨e, rfl, hN⟩
        · by_cases hlt2 : j < n
          · go_wp2_with fail
            refine (slices_Contains_i64 _ _ _ _ hO2.lst).mono ?_
            rintro e5 w5 ⟨rfl, rfl⟩
            cases hh : hasI o' (j : Int)
            · have hcl := Lib.hid (fo1_contains (.pointer (some ⟨eb, 0, none⟩)) (.pointer (some ⟨w.heap.size + 1, 0, none⟩)) _ gp (fun p => p.dst == (j : Int) && p.tokens == 0 && !hasI o' p.src) wr h0w (fun p V hBV => impl_firingOrder1 p j eb (w.heap.size + 1) _ o' V (cell_keep (w := wr) e0 hBV) (cell_keep (w := wr) b0 hBV) (hO2.lst.now hBV)))
              go_wp2_with fail
              refine hcl.out.mono ?_
              rintro e5 w5 ⟨rfl, hB5⟩
              rw [waits_any]
              have hs5 := hB5.size
              have hB25 := hB2.trans (hB5.mono hs2)
              have hbe5 := hbe.now hB5
              have y0 : w5.cell? ⟨eb, 0, none⟩ = some (.int .i64 j) := by simpa using hbe5.cell 0
              have y1 := hbe5.lt
              have hbN : Blk (w5.alloc (.cells #[.int .i64 ((j : Int) + 1)] 2)) w5.heap.size 2 #[.int .i64 ((j + 1 : Nat) : Int)] := by rw [hcast]; exact Blk.newAt w5 _ rfl
              have hmN := atInt_of (b := w5.heap.size) (j := j + 1) (blk_c1 hbN)
              clear hcl e0 e1 e2 k0 k1 l0 b0 b2 b3
              cases hw : waitsO gp o' (j : Int)
              · have hr : readyO gp o' (j : Int) = true := by
                  unfold readyO
                  rw [← hasI_contains, hh, hw]
                  rfl
                have hX := Lib.hid (nextO_hit hlt2 hN.out hr)
                clear hh hw hr
                go_wp2
                exact ⟨⟨j + 1, _, hlt2, rfl, hbN, by omega, hB25.alloc (by omega) _, .inr ⟨j, rfl, hX⟩⟩, by rw [hmN, hei]; omega⟩
              · have hN' : Hid (∀ x, x < j + 1 → readyO gp o' (x : Int) = false) := by
                  intro x q
                  by_cases e : x = j
                  · subst e
                    unfold readyO
                    rw [hw]
                    simp
                  · exact hN.out x (by omega)
                clear hh hw
                go_wp2
                exact ⟨⟨j + 1, _, hlt2, rfl, hbN, by omega, hB25.alloc (by omega) _, .inl ⟨rfl, hN'⟩⟩, by rw [hmN, hei]; omega⟩
            · have hN' : Hid (∀ x, x < j + 1 → readyO gp o' (x : Int) = false) := by
                intro x q
                by_cases e : x = j
                · subst e
                  unfold readyO
                  rw [← hasI_contains, hh]
                  rfl
                · exact hN.out x (by omega)
              have hbN : Blk (wr.alloc (.cells #[.int .i64 ((j : Int) + 1)] 2)) wr.heap.size 2 #[.int .i64 ((j + 1 : Nat) : Int)] := by rw [hcast]; exact Blk.newAt wr _ rfl
              have hmN := atInt_of (b := wr.heap.size) (j := j + 1) (blk_c1 hbN)
              clear hh
              go_wp2
              exact ⟨⟨j + 1, _, hlt2, rfl, hbN, by omega, hB2.alloc hs2 _, .inl ⟨rfl, hN'⟩⟩, by rw [hmN, hei]; omega⟩
          · obtain rfl : j = n := by omega
            have hF : Hid (orderF j gp = none) := orderK_stuck hlt hK.out (nextO_miss hN.out)
            go_wp2
            go_ret2
            rw [hF.out]
            exact ⟨_, rfl, Own.nil, hBw⟩
        · have qe : decide ((e : Int) < 0) = false := by simp
          have hK' : Hid (orderK n gp (k + 1) = some (o' ++ [(e : Int)])) := orderK_go hK.out hN.out
          have hlen : o'.length + [(e : Int)].length ≤ 1099511627776 := by simp; omega
          have hLL : Hid ((o' ++ [(e : Int)]).length = k + 1) := by show _ = _; simp [hlo]
          have hXw : X.heap.size ≤ wr.heap.size := by omega
          by_cases hlt2 : j < n
          all_goals
            go_wp2_with (at_builtin; refine wpList_append_lst rfl _ _ 50 rfl intCell 1 intCell_one (by omega) X.heap.size 2 _ 8 Try.underlying50 info_i64 rfl _ _ rfl (hO2.alloc _) _ _ _ _ [(e : Int)] rfl (lst_new1 _ _ intCell_len _ _ _ _ rfl _ (by simp)) hlen (by omega) (Nat.le_trans hXw (by simp <;> omega)) ?_; intro v' w5 hO1 hG1 hD1; obtain ⟨V1, cv1, rfl⟩ := own_shape_n hO1 hLL.out; have hbo5 := (hbo2.now ((Below.refl _ wr).alloc (Nat.le_refl _) (.cells #[.int .i64 e] 2))).grown hG1 (Ne.symm ((hO2.alloc _).ne_blk (hbo2.now ((Below.refl _ wr).alloc (Nat.le_refl _) (.cells #[.int .i64 e] 2))) (by decide))); have z8 := hbo5.lt; have z9 := hbo5.frozen 0; have z7 := hbo5.cell 0)
            have hbz := blk_set1 hbo5 (.slice V1 (k + 1) cv1)
            have hBa := (hBt.alloc (show w.heap.size + 1 ≤ wr.heap.size by omega) (.cells #[.int .i64 e] 2))
            have hBz := below_app hBa (Nat.le_trans (show w.heap.size + 1 ≤ wr.heap.size by omega) (by simp)) hG1 (hO2.alloc _) (show w.heap.size + 1 ≤ X.heap.size by omega)
            have hsz : X.heap.size ≤ w5.heap.size := Nat.le_trans hXw (Nat.le_trans (by simp) hG1.size)
            exact ⟨⟨k + 1, _, V1, cv1, hlt, hK', hbz, hO1.far (p := ⟨w.heap.size + 1, 0, none⟩) (show w.heap.size + 1 < X.heap.size by omega) _, hBz.setCell (Nat.le_refl _) _, by simpa using hsz⟩, by rw [boxLen_of (blk_c1 hbz), hbl]; omega⟩
    · obtain rfl : k = n := by omega
      have hE : Hid (orderF k gp = some o') := hK.out
      have hBw := hW.trans (hB1.mono (show w.heap.size ≤ w.heap.size + 1 by omega))
      go_wp2
      go_ret2
      rw [hE.out]
      exact ⟨_, rfl, hO.rebase (by omega), hBw⟩
/-- What FiringOrder gives. -/
def ordF (ge : Int) (gp : List Place) : List Int × Int :=
  if okGraph ge gp = false then ([], 1) else match orderF ge.toNat gp with | some o => (o, 0) | none => ([], 5)
theorem ordF_len (ge : Int) (gp : List Place) : (ordF ge gp).1.length ≤ 1048576 := by
  unfold ordF
  cases hg : okGraph ge gp
  · simp
  · have := okGraph_ev hg
    simp only [Bool.true_eq_false, if_false]
    cases ho : orderF ge.toNat gp with
    | none => simp
    | some o =>
      have h1 := (orderK_ok _ o ho).len
      show o.length ≤ 1048576
      omega
end Go.Proofs.Ytcoomogabicfnaa
