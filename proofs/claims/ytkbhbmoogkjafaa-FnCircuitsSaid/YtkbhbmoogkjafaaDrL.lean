/-
  The walks of the draws of a circuit, of a marking and of an event.
-/
import Derived.Test.YtkbhbmoogkjafaaFireW
import Derived.Test.YtkbhbmoogkjafaaCirS
namespace Go.Proofs.Ytkbhbmoogkjafaa
open Go.RowKit
set_option linter.unusedVariables false
set_option linter.unusedSimpArgs false
theorem grown_app {w0 W W' : World} {g : Nat} {r : Option Nat} (h : w0.grownBy W (some g)) (hG : W.grownBy W' r) (hr : ∀ k, r = some k → w0.heap.size ≤ k) : w0.grownBy W' (some g) :=
  ⟨hG.os.trans h.os, hG.tape.trans h.tape, hG.output.trans h.output, Nat.le_trans h.size hG.size, fun i hi hn => (hG.block i (Nat.lt_of_lt_of_le hi h.size) (fun e => by have := hr i e.symm; omega)).trans (h.block i hi hn)⟩
theorem Dr.appU {w0 W W' : World} {g b2 bg : Nat} {ge : Int} {v uv : Value} {gp : List Place} {l : List Int} (h : Dr w0 g b2 bg W ge v gp) (hU : Own intCell 1 2 W w0.heap.size uv l) (hG : W.grownBy W' uv.ownBlock) : Dr w0 g b2 bg W' ge v gp :=
  ⟨h.src.kept hG (fun k e => by have := (hU.lt k e).1; have := h.hg; omega), grown_app h.grown hG (fun k e => (hU.lt k e).1), h.res.grown hG (fun e => hU.ne_blk h.res (by decide) e.symm), h.box.grown hG (fun e => hU.ne_blk h.box (by decide) e.symm), own_kept h.own hG (own_ne_own h.own hU (by decide)), h.hb2, h.hbg, h.hne, h.hg⟩
theorem drawn_app {w0 W W' : World} {g : Nat} {uv : Value} {l : List Int} (h : Drawn w0 g W) (hg : g < w0.heap.size) (hU : Own intCell 1 2 W w0.heap.size uv l) (hG : W.grownBy W' uv.ownBlock) : Drawn w0 g W' :=
  ⟨h.1.kept hG (fun k e => by have := (hU.lt k e).1; omega), grown_app h.2 hG (fun k e => (hU.lt k e).1)⟩
theorem Lst.drop1 {w : World} {B : Nat} {l : List Int} {b off n c : Nat} (h : Lst intCell 1 w B (.slice (some ⟨b, off, none⟩) n c) l) (k : Nat) (hk : k ≤ l.length) : Lst intCell 1 w B (.slice (some ⟨b, off + k, none⟩) (n - k) (c - k)) (l.drop k) := by
  obtain ⟨h1, h2, A', c', hv, hc, hr⟩ := h
  injection hv with hA hn hcc
  subst hA
  subst hcc
  subst hn
  refine ⟨flat_len intCell 1 intCell_len _, by simp; omega, some ⟨b, off + k, none⟩, c - k, by rw [List.length_drop], by simp; omega, fun hp => ?_⟩
  obtain ⟨b', off', hA, hb, hcell⟩ := hr (by simp at hp; omega)
  injection hA with hA
  injection hA with hb1 ho1
  subst hb1
  subst ho1
  refine ⟨b, off + k, rfl, hb, fun j u hu => ?_⟩
  have e : l.flatMap intCell = (l.take k).flatMap intCell ++ (l.drop k).flatMap intCell := by rw [← List.flatMap_append, List.take_append_drop]
  have hlk : ((l.take k).flatMap intCell).length = k := by rw [flat_len intCell 1 intCell_len]; simp; omega
  rw [Nat.add_assoc]
  refine hcell (k + j) u ?_
  rw [e, List.getElem?_append_right (by omega), hlk, Nat.add_sub_cancel_left]
  exact hu
theorem flat_int (l : List Int) : l.flatMap intCell = l.map (fun x => Value.int .i64 x) := by
  induction l with
  | nil => rfl
  | cons x l ih => simp [List.flatMap_cons, ih, intCell]
/-- A list of numbers stays a list of as many numbers where the source goes on. -/
theorem dlc_lst {W W' : World} {g : Nat} {u : Value} {l : List Int} (h : Lst intCell 1 W W.heap.size u l) (hs : Src W g) (hN : Drawn W g W') : ∃ l' : List Int, l'.length = l.length ∧ Lst intCell 1 W' W'.heap.size u l' := by
  have hsz := hN.2.size
  by_cases h0 : l.length = 0
  · obtain ⟨h1, h2, A', c', hv, hc, hr⟩ := h
    exact ⟨l, rfl, h1, h2, A', c', hv, hc, fun hp => absurd hp (by omega)⟩
  · obtain ⟨b, off, c, hv, hb, -⟩ := h.at_ intCell_len 0 (by omega)
    have hall : ∀ i (hi : i < l.length), W.cell? ⟨b, off + i, none⟩ = some (.int .i64 l[i]) := fun i hi => by
      obtain ⟨b', off', c', hv', hb', hc'⟩ := h.at_ intCell_len i hi
      rw [hv] at hv'
      injection hv' with e1 _ _
      injection e1 with e1
      injection e1 with e1 e2
      subst e1
      subst e2
      have := hc' 0 _ (by omega) rfl
      simpa using this
    have hmk : ∀ val : Nat → Int, (∀ i, i < l.length → W'.cell? ⟨b, off + i, none⟩ = some (.int .i64 (val i))) → ∃ l' : List Int, l'.length = l.length ∧ Lst intCell 1 W' W'.heap.size u l' := fun val hval => by
      obtain ⟨h1, h2, A', c', hv', hc', hr⟩ := h
      have hl : ((List.range l.length).map val).length = l.length := by simp
      refine ⟨(List.range l.length).map val, hl, flat_len intCell 1 intCell_len _, by rw [hl]; exact h2, A', c', by rw [hl]; exact hv', by rw [hl]; exact hc', fun hp => ⟨b, off, ?_, by omega, fun j u' hu => ?_⟩⟩
      · rw [hv] at hv'
        injection hv' with e1 _ _
        exact e1.symm
      · rw [flat_int, List.getElem?_map, List.getElem?_map] at hu
        by_cases hj : j < l.length
        · rw [List.getElem?_eq_getElem (by simpa using hj)] at hu
          simp only [List.getElem_range, Option.map_some] at hu
          injection hu with hu
          rw [← hu]
          exact hval j hj
        · rw [List.getElem?_eq_none (by simp; omega)] at hu
          cases hu
    by_cases hbg : b = g
    · subst hbg
      obtain ⟨A0, n0, c0, a0, s0, bs0, hS0⟩ := hs
      obtain ⟨A1, n1, c1, a1, s1, bs1, hS1⟩ := hN.1
      have hB0 := hS0.1
      obtain ⟨y0, y1, y2, -⟩ := hS1.cells
      have hpos : ∀ i, i < l.length → off + i = 1 ∨ off + i = 2 := fun i hi => by
        have hc := hall i hi
        unfold Blk at hB0
        rw [cell_of_row _ _ _ _ _ _ hB0] at hc
        rcases Nat.lt_or_ge (off + i) 3 with h3 | h3
        · rcases Nat.lt_or_ge (off + i) 1 with h4 | h4
          · rw [show off + i = 0 by omega] at hc
            cases hc
          · omega
        · rw [Array.getElem?_eq_none (by simpa using h3)] at hc
          cases hc
      refine hmk (fun i => if off + i = 1 then a1 else s1) fun i hi => ?_
      rcases hpos i hi with e | e
      · rw [e, if_pos rfl]; exact y1
      · rw [e, if_neg (by omega)]; exact y2
    · refine hmk (fun i => l.getD i 0) fun i hi => ?_
      rw [List.getD_eq_getElem?_getD, List.getElem?_eq_getElem hi, Option.getD_some]
      exact hN.2.cell (hall i hi) (fun e => by injection e with e; exact hbg e)
theorem dlc_len {gp : List Place} {n : Nat} {a b ov : Int} {out : List Nat} (hg : okGraph n gp = true) (h : OverR gp a b ov out) : out.length ≤ 10 := by
  by_cases e : out = []
  · simp [e]
  · have h1 := circuit_len hg (h.2 e).1
    rw [ints_len] at h1
    have := okGraph_ev hg
    omega
set_option maxHeartbeats 16000000 in
set_option maxRecDepth 100000 in
theorem spec_l15DrawCircuit (g : Nat) (w : World) (h : Src w g) :
    Calls Try.prog 121 #[.pointer (some ⟨g, 0, none⟩)] w fun e w' => ∃ ge gp v u, e = .returned (.tuple #[.agg #[.int .i64 ge, v], u]) ∧ 0 ≤ ge ∧ ge ≤ 11 ∧ gp.length ≤ 40 ∧ ∃ l : List Int, l.length ≤ 40 ∧ Own Place.cells 4 45 w' w.heap.size v gp ∧ Own intCell 1 2 w' w.heap.size u l ∧ Drawn w g w' := by
  have hgw := h.lt
  go_enter Try.func121, Try.ntmps121
  go_wp2_with fail
  have hA : Below w.heap.size w (w.alloc (.cells #[.int .i64 0, .slice none 0 0] 26)) := (Below.refl _ _).alloc (Nat.le_refl _) _
  refine (spec_l12Draw g _ (h.now hA)).mono ?_
  rintro e w1 ⟨ge, gp, v, rfl, hg0, hg1, hlen, hO, hN⟩
  obtain ⟨A, c, rfl⟩ := hO.shape
  have hres := (Blk.new w 26 #[.int .i64 0, .slice none 0 0]).grown hN.2 (fun e => by injection e with e; omega)
  have hG1 := grown_trans (grown_of_below (r := some g) hA) hN.2
  have hs1 := hG1.size
  have hlt1 := hres.lt
  have hA2 : Below w1.heap.size w1 (w1.alloc (.cells #[.int .i64 ge, .slice A gp.length c] 26)) := (Below.refl _ _).alloc (Nat.le_refl _) _
  have hD : Dr w g w.heap.size w1.heap.size (w1.alloc (.cells #[.int .i64 ge, .slice A gp.length c] 26)) ge (.slice A gp.length c) gp :=
    ⟨hN.1.now hA2, grown_trans hG1 (grown_of_below hA2), hres.now hA2, Blk.newAt _ _ rfl, (hO.rebase hA.size).now hA2, Nat.le_refl _, hs1, by omega, hgw⟩
  obtain ⟨e0, e1⟩ := hD.box.c2
  have lbg := hD.box.lt
  go_wp2_with fail
  clear e0 e1 lbg
  obtain ⟨bg, hbg⟩ : ∃ bg, w1.heap.size = bg := ⟨_, rfl⟩
  obtain ⟨b2, hb2⟩ : ∃ b2, w.heap.size = b2 := ⟨_, rfl⟩
  have hD' : Dr w g b2 bg (w1.alloc (.cells #[.int .i64 ge, .slice A gp.length c] 26)) ge (.slice A gp.length c) gp := by rw [← hb2, ← hbg]; exact hD
  rw [hbg]
  rw [show (Value.pointer (some ⟨w.heap.size, 0, none⟩)) = .pointer (some ⟨b2, 0, none⟩) by rw [hb2]]
  clear hN hO hres hG1 hs1 hlt1 hD hA hA2 hbg hb2
  generalize w1.alloc (.cells #[.int .i64 ge, .slice A gp.length c] 26) = W2 at *
  refine (spec_IsEventGraph _ ge gp _ hD'.own.lst).mono ?_
  rintro e wa ⟨rfl, hB2⟩
  have hD := hD'.below hB2
  clear hB2 hD'
  cases hok : okGraph ge gp
  · clear hok
    obtain ⟨p0, p1⟩ := hD.box.c2
    have lpb := hD.box.lt
    have hs9 := hD.grown.size
    have hZ : Below wa.heap.size wa (wa.alloc (.cells #[] 2)) := (Below.refl _ _).alloc (Nat.le_refl _) _
    have hU : Own intCell 1 2 (wa.alloc (.cells #[] 2)) w.heap.size (.slice (some ⟨wa.heap.size, 0, none⟩) 0 0) ([] : List Int) := own_new0 intCell 1 wa 2 w.heap.size hs9
    replace hD := hD.below hZ
    clear hZ hs9
    obtain ⟨e0, e1⟩ := hD.box.c2
    have lbg := hD.box.lt
    go_wp2_with fail
    clear e0 e1 lbg p0 p1 lpb
    refine (spec_l01Next g 4 _ hD.src (by omega)).mono ?_
    rintro e wt ⟨k4, rfl, hk4, hN⟩
    replace hU := own_draw hU (by decide) hD.src hN
    replace hD := hD.draw hN
    have hk41 : k4 < 4 := hk4.2.1 (by omega)
    have hk40 := hk4.1
    clear hk4 hN
    go_wp2
    go_loopw [7, 8] (fun uv kv wr => ∃ (l : List Int) (kk : Int), kv = .int .i64 kk ∧ 0 ≤ kk ∧ kk ≤ 3 ∧ (l.length : Int) ≤ 3 - kk ∧ Own intCell 1 2 wr w.heap.size uv l ∧ Dr w g b2 bg wr _ (.slice A gp.length c) gp) (fun _ kv _ => (intOf kv).toNat)
    case atStart => exact ⟨[], k4, rfl, hk40, by omega, by simp; omega, hU, hD⟩
    case round =>
      clear hU hD hk40 hk41
      obtain ⟨l, kk, rfl, hk0, hk1, hll, hU, hD⟩ := hrel
      obtain ⟨Y, cy, rfl⟩ := hU.shape
      obtain ⟨e0, e1⟩ := hD.box.c2
      have lbg := hD.box.lt
      by_cases hlt : 0 < kk
      · have wl : IntKind.i64.wrap ((gp.length : Int) + 1) = (gp.length : Int) + 1 := IntWalk.i64_in _ (by omega)
        have wk : IntKind.i64.wrap (kk - 1) = kk - 1 := IntWalk.i64_in _ (by omega)
        go_wp2_with fail
        clear e0 e1 lbg
        refine (spec_l01Next g ((gp.length : Int) + 1) _ hD.src (by omega)).mono ?_
        rintro e wu ⟨x1, rfl, hx1, hN⟩
        replace hU := own_draw hU (by decide) hD.src hN
        replace hD := hD.draw hN
        have hx10 := hx1.1
        have hx11 : x1 ≤ 41 := by obtain ⟨n1, n2, n3⟩ := hx1; omega
        clear hx1 hN
        go_wp2_with fail
        refine (spec_l01Next g 20 _ hD.src (by omega)).mono ?_
        rintro e wv ⟨x2, rfl, hx2, hN⟩
        replace hU := own_draw hU (by decide) hD.src hN
        replace hD := hD.draw hN
        have hx20 := hx2.1
        have hx21 : x2 < 20 := hx2.2.1 (by omega)
        clear hx2 hN
        have hq9 : Int.tdiv x2 19 = x2 / 19 := Int.tdiv_eq_ediv_of_nonneg hx20
        obtain ⟨d9, hd9⟩ : ∃ d9, x2 / 19 = d9 := ⟨_, rfl⟩
        rw [hd9] at hq9
        have wq : IntKind.i64.wrap d9 = d9 := IntWalk.i64_in _ (by omega)
        have wx : IntKind.i64.wrap (x1 - d9) = x1 - d9 := IntWalk.i64_in _ (by omega)
        have hZ : Below wv.heap.size wv (wv.alloc (.cells #[.int .i64 (x1 - d9)] 2)) := (Below.refl _ _).alloc (Nat.le_refl _) _
        have hU9 := Lib.hid (hU.now hZ)
        have hD9 := Lib.hid (hD.below hZ)
        have hlenA : l.length + [x1 - d9].length ≤ 1099511627776 := by simp; omega
        have hsz : Hid (w.heap.size ≤ (wv.alloc (.cells #[.int .i64 (x1 - d9)] 2)).heap.size) := hD9.out.grown.size
        clear hU hD hZ hd9
        go_wp2_with (at_builtin; refine wpList_append_lst rfl _ _ 38 rfl intCell 1 intCell_one (by omega) w.heap.size 2 _ 8 Try.underlying38 info_i64 rfl _ _ rfl hU9.out _ _ _ _ [x1 - d9] rfl (lst_new1 _ _ intCell_len _ _ _ _ rfl _ (by simp)) hlenA (by omega) hsz.out ?_; intro v' w9 hO1 hG1 hD1)
        go_roundw
        case rel => exact ⟨l ++ [x1 - d9], kk - 1, rfl, by omega, by omega, by simp; omega, hO1, hD9.out.appU hU9.out hG1⟩
        case measure => simp [intOf]; omega
      · have f0 := hD.res.frozen 0
        have f1 := hD.res.frozen 1
        have lb2 := hD.res.lt
        obtain ⟨r0, r1⟩ := hD.res.c2
        have hF := Lib.hid hD.fin
        have hU8 := Lib.hid (own_far (own_far hU (p := ⟨b2, 0, none⟩) (hU.ne_blk hD.res (by decide)) (.int .i64 ge)) (p := ⟨b2, 1, none⟩) (hU.ne_blk hD.res (by decide)) (.slice A gp.length c))
        go_wp2
        refine bodyPost_ret (v := .tuple #[.agg #[.int .i64 ge, .slice A gp.length c], .slice Y l.length cy]) (by simp [results, Try.results121, go_sem, r0, r1]) rfl ?_
        refine ⟨ge, gp, .slice A gp.length c, .slice Y l.length cy, rfl, by omega, by omega, by omega, l, by omega, hF.out.1, hU8.out, hF.out.2⟩
  · by_cases h20 : gp.length < 20
    · have h20I : (gp.length : Int) < 20 := by omega
      obtain ⟨n, rfl⟩ := Int.eq_ofNat_of_zero_le hg0
      have hokH := Lib.hid hok
      clear hok
      obtain ⟨e0, e1⟩ := hD.box.c2
      have lbg := hD.box.lt
      go_wp2_with fail
      clear e0 e1 lbg
      refine (spec_l01Next g 5 _ hD.src (by omega)).mono ?_
      rintro e wb ⟨y5, rfl, hy, hN⟩
      replace hD := hD.draw hN
      clear hN hy
      by_cases hy0 : 0 < y5
      · go_wp2
        go_cut [5] from 9 (fun lv wx => ∃ (out : List Nat), Lst intCell 1 wx wx.heap.size lv (ints out) ∧ out.length ≤ 10 ∧ Dr w g b2 bg wx (n : Int) (.slice A gp.length c) gp)
        case first =>
          have hBd : Below wb.heap.size wb wb.drew := Below.drew (Below.refl _ wb)
          replace hD := hD.below hBd
          clear hBd
          obtain ⟨e0, e1⟩ := hD.box.c2
          have lbg := hD.box.lt
          go_wp2_with fail
          refine wp_region_held_drew (S := fun w' => w'.cell? ⟨bg, 0, none⟩ = some (.int .i64 (n : Nat)) ∧ w'.cell? ⟨bg, 1, none⟩ = some (.slice A gp.length c)) (by kernel_rfl) ⟨e0, e1⟩ (fun hH => ?_)
          generalize wb.drew = Va at *
          refine wpAnyH_take (i := 0) (oi := { dst := _, op := _, type := _, pos := _, after := _, guard := _ }) (v := ?_) rfl (by kernel_rfl) (by kernel_rfl) (by kernel_rfl) (fun _ _ _ h => h) (Or.inl ⟨by rfl, ?_⟩) hH ?_
          rotate_left
          · intro w9 hSw
            try dsimp only at hSw
            obtain ⟨s0, s1⟩ := hSw
            go_simp
            try with_reducible rfl
          try simp only [Act.put, List.setIfInBounds_toArray, List.set_cons_zero, List.set_cons_succ]
          refine wpAnyH_take (i := 1) (oi := { dst := _, op := _, type := _, pos := _, after := _, guard := _ }) (v := ?_) rfl (by kernel_rfl) (by kernel_rfl) (by kernel_rfl) (fun _ _ _ h => h) (Or.inl ⟨by rfl, ?_⟩) hH ?_
          rotate_left
          · intro w9 hSw
            try dsimp only at hSw
            obtain ⟨s0, s1⟩ := hSw
            go_simp
            try with_reducible rfl
          try simp only [Act.put, List.setIfInBounds_toArray, List.set_cons_zero, List.set_cons_succ]
          refine wpAnyH_take (i := 4) (oi := { dst := _, op := _, type := _, pos := _, after := _, guard := _ }) (v := ?_) rfl (by kernel_rfl) (by kernel_rfl) (by kernel_rfl) (fun _ _ _ h => h) (Or.inl ⟨by rfl, ?_⟩) hH ?_
          rotate_left
          · intro w9 hSw
            try dsimp only at hSw
            obtain ⟨s0, s1⟩ := hSw
            go_simp
            try with_reducible rfl
          try simp only [Act.put, List.setIfInBounds_toArray, List.set_cons_zero, List.set_cons_succ]
          refine wpAnyH_ready (rs := [2, 5]) (by kernel_rfl) (by simp) ?_
          refine AllReadyH.cons rfl (fun K hK => ?_) (AllReadyH.cons rfl (fun K hK => ?_) AllReadyH.nil)
          · go_simp
            go_at_call 112
            refine (spec_l01Next g 3 _ hD.src (by omega)).mono ?_
            rintro e va ⟨y3, rfl, hy3, hN⟩
            have hy31 : 0 ≤ y3 ∧ y3 < 3 := ⟨hy3.1, hy3.2.1 (by omega)⟩
            replace hD := hD.draw hN
            clear hy3 hN
            clear e0 e1
            obtain ⟨e0, e1⟩ := hD.box.c2
            refine hK.out _ _ ⟨e0, e1⟩ (fun hH => ?_)
            clear hK K
            try simp only [Act.put, List.setIfInBounds_toArray, List.set_cons_zero, List.set_cons_succ]
            refine wpAnyH_take (i := 3) (oi := { dst := _, op := _, type := _, pos := _, after := _, guard := _ }) (v := ?_) rfl (by kernel_rfl) (by kernel_rfl) (by kernel_rfl) (fun _ _ _ h => h) (Or.inl ⟨by rfl, ?_⟩) hH ?_
            rotate_left
            · intro w9 hSw
              try dsimp only at hSw
              obtain ⟨s0, s1⟩ := hSw
              go_simp
              try with_reducible rfl
            try simp only [Act.put, List.setIfInBounds_toArray, List.set_cons_zero, List.set_cons_succ]
            refine wpAnyH_ready (rs := [5]) (by kernel_rfl) (by simp) ?_
            refine AllReadyH.cons rfl (fun K hK => ?_) AllReadyH.nil
            have hZ : Below va.heap.size va (va.alloc (.cells #[.int .i64 (-1000000), .int .i64 (-20), .int .i64 (-1)] 2)) := (Below.refl _ _).alloc (Nat.le_refl _) _
            have hpk := Blk.newAt va (t := 2) (cs := #[.int .i64 (-1000000), .int .i64 (-20), .int .i64 (-1)]) _ rfl
            have hpg : va.heap.size ≠ g := by have := hD.src.lt; omega
            replace hD := hD.below hZ
            clear hZ
            clear e0 e1
            obtain ⟨e0, e1⟩ := hD.box.c2
            go_simp
            refine hK.out _ _ ⟨e0, e1⟩ (fun hH => ?_)
            clear hK K
            try simp only [Act.put, List.setIfInBounds_toArray, List.set_cons_zero, List.set_cons_succ]
            obtain ⟨pb, hpb⟩ : ∃ pb, va.heap.size = pb := ⟨_, rfl⟩
            rw [hpb] at hpk hpg ⊢
            clear hpb
            generalize va.alloc (.cells #[.int .i64 (-1000000), .int .i64 (-20), .int .i64 (-1)] 2) = Vp at *
            refine wpAnyH_ready (rs := [6]) (by kernel_rfl) (by simp) ?_
            refine AllReadyH.cons rfl (fun K hK => ?_) AllReadyH.nil
            go_simp
            go_at_call 111
            refine (spec_l01Pick g pb [-1000000, -20, -1] _ hD.src hpk (by simp) (by simp)).mono ?_
            rintro e vp ⟨pk, hpk2, rfl, hN⟩
            replace hD := hD.draw hN
            clear hpk2 hN hpk hpg
            clear e0 e1
            obtain ⟨e0, e1⟩ := hD.box.c2
            refine hK.out _ _ ⟨e0, e1⟩ (fun hH => ?_)
            clear hK K
            try simp only [Act.put, List.setIfInBounds_toArray, List.set_cons_zero, List.set_cons_succ]
            refine wpAnyH_ready (rs := [7]) (by kernel_rfl) (by simp) ?_
            refine AllReadyH.cons rfl (fun K hK => ?_) AllReadyH.nil
            go_simp
            go_at_call 198
            refine (spec_l15Over _ n gp y3 1 pk _ hD.own.lst hokH (by omega) (by omega)).mono ?_
            rintro e vo ⟨ov, out, rfl, hL, hR, hB9⟩
            have hol : out.length ≤ 10 := dlc_len hokH.out hR.out
            replace hD := hD.below hB9
            clear hB9 hR
            clear e0 e1
            obtain ⟨e0, e1⟩ := hD.box.c2
            refine hK.out _ _ ⟨e0, e1⟩ (fun hH => ?_)
            clear hK K
            try simp only [Act.put, List.setIfInBounds_toArray, List.set_cons_zero, List.set_cons_succ]
            refine wpAnyH_take (i := 8) (oi := { dst := _, op := _, type := _, pos := _, after := _, guard := _ }) (v := ?_) rfl (by kernel_rfl) (by kernel_rfl) (by kernel_rfl) (fun _ _ _ h => h) (Or.inl ⟨by rfl, ?_⟩) hH ?_
            rotate_left
            · intro w9 hSw
              try dsimp only at hSw
              obtain ⟨s0, s1⟩ := hSw
              go_simp
              try with_reducible rfl
            try simp only [Act.put, List.setIfInBounds_toArray, List.set_cons_zero, List.set_cons_succ]
            refine wpAnyH_done (by kernel_rfl) ?_ _
            go_wp2_with fail
            go_meet
            exact ⟨out, hL, hol, hD⟩
          · have hZ : Below Va.heap.size Va (Va.alloc (.cells #[.int .i64 (-1000000), .int .i64 (-20), .int .i64 (-1)] 2)) := (Below.refl _ _).alloc (Nat.le_refl _) _
            have hpk := Blk.newAt Va (t := 2) (cs := #[.int .i64 (-1000000), .int .i64 (-20), .int .i64 (-1)]) _ rfl
            have hpg : Va.heap.size ≠ g := by have := hD.src.lt; omega
            replace hD := hD.below hZ
            clear hZ
            clear e0 e1
            obtain ⟨e0, e1⟩ := hD.box.c2
            go_simp
            refine hK.out _ _ ⟨e0, e1⟩ (fun hH => ?_)
            clear hK K
            try simp only [Act.put, List.setIfInBounds_toArray, List.set_cons_zero, List.set_cons_succ]
            obtain ⟨pb, hpb⟩ : ∃ pb, Va.heap.size = pb := ⟨_, rfl⟩
            rw [hpb] at hpk hpg ⊢
            clear hpb
            generalize Va.alloc (.cells #[.int .i64 (-1000000), .int .i64 (-20), .int .i64 (-1)] 2) = Vp at *
            refine wpAnyH_ready (rs := [2]) (by kernel_rfl) (by simp) ?_
            refine AllReadyH.cons rfl (fun K hK => ?_) AllReadyH.nil
            go_simp
            go_at_call 112
            refine (spec_l01Next g 3 _ hD.src (by omega)).mono ?_
            rintro e va ⟨y3, rfl, hy3, hN⟩
            have hy31 : 0 ≤ y3 ∧ y3 < 3 := ⟨hy3.1, hy3.2.1 (by omega)⟩
            replace hpk := hpk.grown hN.2 (fun e => hpg (by injection e))
            replace hD := hD.draw hN
            clear hy3 hN
            clear e0 e1
            obtain ⟨e0, e1⟩ := hD.box.c2
            refine hK.out _ _ ⟨e0, e1⟩ (fun hH => ?_)
            clear hK K
            try simp only [Act.put, List.setIfInBounds_toArray, List.set_cons_zero, List.set_cons_succ]
            refine wpAnyH_take (i := 3) (oi := { dst := _, op := _, type := _, pos := _, after := _, guard := _ }) (v := ?_) rfl (by kernel_rfl) (by kernel_rfl) (by kernel_rfl) (fun _ _ _ h => h) (Or.inl ⟨by rfl, ?_⟩) hH ?_
            rotate_left
            · intro w9 hSw
              try dsimp only at hSw
              obtain ⟨s0, s1⟩ := hSw
              go_simp
              try with_reducible rfl
            try simp only [Act.put, List.setIfInBounds_toArray, List.set_cons_zero, List.set_cons_succ]
            refine wpAnyH_ready (rs := [6]) (by kernel_rfl) (by simp) ?_
            refine AllReadyH.cons rfl (fun K hK => ?_) AllReadyH.nil
            go_simp
            go_at_call 111
            refine (spec_l01Pick g pb [-1000000, -20, -1] _ hD.src hpk (by simp) (by simp)).mono ?_
            rintro e vp ⟨pk, hpk2, rfl, hN⟩
            replace hD := hD.draw hN
            clear hpk2 hN hpk hpg
            clear e0 e1
            obtain ⟨e0, e1⟩ := hD.box.c2
            refine hK.out _ _ ⟨e0, e1⟩ (fun hH => ?_)
            clear hK K
            try simp only [Act.put, List.setIfInBounds_toArray, List.set_cons_zero, List.set_cons_succ]
            refine wpAnyH_ready (rs := [7]) (by kernel_rfl) (by simp) ?_
            refine AllReadyH.cons rfl (fun K hK => ?_) AllReadyH.nil
            go_simp
            go_at_call 198
            refine (spec_l15Over _ n gp y3 1 pk _ hD.own.lst hokH (by omega) (by omega)).mono ?_
            rintro e vo ⟨ov, out, rfl, hL, hR, hB9⟩
            have hol : out.length ≤ 10 := dlc_len hokH.out hR.out
            replace hD := hD.below hB9
            clear hB9 hR
            clear e0 e1
            obtain ⟨e0, e1⟩ := hD.box.c2
            refine hK.out _ _ ⟨e0, e1⟩ (fun hH => ?_)
            clear hK K
            try simp only [Act.put, List.setIfInBounds_toArray, List.set_cons_zero, List.set_cons_succ]
            refine wpAnyH_take (i := 8) (oi := { dst := _, op := _, type := _, pos := _, after := _, guard := _ }) (v := ?_) rfl (by kernel_rfl) (by kernel_rfl) (by kernel_rfl) (fun _ _ _ h => h) (Or.inl ⟨by rfl, ?_⟩) hH ?_
            rotate_left
            · intro w9 hSw
              try dsimp only at hSw
              obtain ⟨s0, s1⟩ := hSw
              go_simp
              try with_reducible rfl
            try simp only [Act.put, List.setIfInBounds_toArray, List.set_cons_zero, List.set_cons_succ]
            refine wpAnyH_done (by kernel_rfl) ?_ _
            go_wp2_with fail
            go_meet
            exact ⟨out, hL, hol, hD⟩
        case rest =>
          obtain ⟨out, hL, hol, hD⟩ := hcut
          obtain ⟨wq, rfl⟩ : ∃ wq : World, wq = wc := ⟨_, rfl⟩
          obtain ⟨LA, lc, rfl⟩ := hL.shape
          rw [ints_len] at hL ⊢
          by_cases ho : 0 < out.length
          · have hoI : (0 : Int) < (out.length : Int) := by omega
            go_wp2_with fail
            refine (spec_l01Next g (out.length : Int) _ hD.src (by omega)).mono ?_
            rintro e wd ⟨k, rfl, hk, hN⟩
            obtain ⟨ol, holl, hL2⟩ := dlc_lst hL hD.src hN
            rw [ints_len] at holl
            have hollH := Lib.hid holl
            replace hD := hD.draw hN
            have hk1 : 0 ≤ k ∧ k < (out.length : Int) := by obtain ⟨n1, n2, n3⟩ := hk; omega
            clear hN hk hL holl
            obtain ⟨k, rfl⟩ := Int.eq_ofNat_of_zero_le hk1.1
            have hkl : k < out.length := by omega
            have hol0 : 0 < ol.length := by rw [hollH.out]; omega
            obtain ⟨lb, lo, lc', hlv, hlb, -⟩ := hL2.at_ intCell_len 0 hol0
            obtain ⟨rfl, -, rfl⟩ : LA = some ⟨lb, lo, none⟩ ∧ out.length = ol.length ∧ lc = lc' := by injection hlv with a1 a2 a3; exact ⟨a1, a2, a3⟩
            have hcap : out.length ≤ lc := by obtain ⟨-, -, A', c', hv, hc, -⟩ := hL2; injection hv with a1 a2 a3; rw [hollH.out] at hc; omega
            have hdr := Lib.hid (hL2.drop1 k (by rw [hollH.out]; omega))
            have htk := Lib.hid hL2
            clear hL2 hlv
            have hBd : Below wd.heap.size wd wd.drew := Below.drew (Below.refl _ wd)
            replace hD := hD.below hBd
            replace hdr := Lib.hid (hdr.out.now hBd)
            replace htk := Lib.hid (htk.out.now hBd)
            clear hBd
            obtain ⟨e0, e1⟩ := hD.box.c2
            have lbg := hD.box.lt
            have i1 : (0 : Int) ≤ (k : Int) := by omega
            have i2 : (k : Int) ≤ (out.length : Int) := by omega
            have i3 : (k : Int) ≤ (lc : Int) := by omega
            have i4 : k ≤ out.length := by omega
            have i5 : k ≤ lc := by omega
            have i6 : out.length ≤ lc := hcap
            have i7 : ¬ lc = k := by omega
            go_wp2_with fail
            refine wp_region_held_drew (S := fun w' => w'.cell? ⟨bg, 0, none⟩ = some (.int .i64 (n : Nat)) ∧ w'.cell? ⟨bg, 1, none⟩ = some (.slice A gp.length c)) (by kernel_rfl) ⟨e0, e1⟩ (fun hH => ?_)
            generalize wd.drew = Va at *
            refine wpAnyH_take (i := 0) (oi := { dst := _, op := _, type := _, pos := _, after := _, guard := _ }) (v := ?_) rfl (by kernel_rfl) (by kernel_rfl) (by kernel_rfl) (fun _ _ _ h => h) (Or.inl ⟨by rfl, ?_⟩) hH ?_
            rotate_left
            · intro w9 hSw
              try dsimp only at hSw
              obtain ⟨s0, s1⟩ := hSw
              go_simp
              try with_reducible rfl
            try simp only [Act.put, List.setIfInBounds_toArray, List.set_cons_zero, List.set_cons_succ]
            refine wpAnyH_take (i := 1) (oi := { dst := _, op := _, type := _, pos := _, after := _, guard := _ }) (v := ?_) rfl (by kernel_rfl) (by kernel_rfl) (by kernel_rfl) (fun _ _ _ h => h) (Or.inl ⟨by rfl, ?_⟩) hH ?_
            rotate_left
            · intro w9 hSw
              try dsimp only at hSw
              obtain ⟨s0, s1⟩ := hSw
              go_simp
              try with_reducible rfl
            try simp only [Act.put, List.setIfInBounds_toArray, List.set_cons_zero, List.set_cons_succ]
            refine wpAnyH_take (i := 2) (oi := { dst := _, op := _, type := _, pos := _, after := _, guard := _ }) (v := ?_) rfl (by kernel_rfl) (by kernel_rfl) (by kernel_rfl) (fun _ _ _ h => h) (Or.inl ⟨by rfl, ?_⟩) hH ?_
            rotate_left
            · intro w9 hSw
              try dsimp only at hSw
              obtain ⟨s0, s1⟩ := hSw
              go_simp
              try with_reducible rfl
            try simp only [Act.put, List.setIfInBounds_toArray, List.set_cons_zero, List.set_cons_succ]
            refine wpAnyH_take (i := 3) (oi := { dst := _, op := _, type := _, pos := _, after := _, guard := _ }) (v := ?_) rfl (by kernel_rfl) (by kernel_rfl) (by kernel_rfl) (fun _ _ _ h => h) (Or.inl ⟨by rfl, ?_⟩) hH ?_
            rotate_left
            · intro w9 hSw
              try dsimp only at hSw
              obtain ⟨s0, s1⟩ := hSw
              go_simp
              try with_reducible rfl
            try simp only [Act.put, List.setIfInBounds_toArray, List.set_cons_zero, List.set_cons_succ]
            refine wpAnyH_take (i := 5) (oi := { dst := _, op := _, type := _, pos := _, after := _, guard := _ }) (v := ?_) rfl (by kernel_rfl) (by kernel_rfl) (by kernel_rfl) (fun _ _ _ h => h) (Or.inl ⟨by rfl, ?_⟩) hH ?_
            rotate_left
            · intro w9 hSw
              try dsimp only at hSw
              obtain ⟨s0, s1⟩ := hSw
              go_simp
              try with_reducible rfl
            try simp only [Act.put, List.setIfInBounds_toArray, List.set_cons_zero, List.set_cons_succ]
            refine wpAnyH_take (i := 6) (oi := { dst := _, op := _, type := _, pos := _, after := _, guard := _ }) (v := ?_) rfl (by kernel_rfl) (by kernel_rfl) (by kernel_rfl) (fun _ _ _ h => h) (Or.inl ⟨by rfl, ?_⟩) hH ?_
            rotate_left
            · intro w9 hSw
              try dsimp only at hSw
              obtain ⟨s0, s1⟩ := hSw
              go_simp
              try with_reducible rfl
            try simp only [Act.put, List.setIfInBounds_toArray, List.set_cons_zero, List.set_cons_succ]
            refine wpAnyH_take (i := 7) (oi := { dst := _, op := _, type := _, pos := _, after := _, guard := _ }) (v := ?_) rfl (by kernel_rfl) (by kernel_rfl) (by kernel_rfl) (fun _ _ _ h => h) (Or.inl ⟨by rfl, ?_⟩) hH ?_
            rotate_left
            · intro w9 hSw
              try dsimp only at hSw
              obtain ⟨s0, s1⟩ := hSw
              go_simp
              try with_reducible rfl
            try simp only [Act.put, List.setIfInBounds_toArray, List.set_cons_zero, List.set_cons_succ]
            refine wpAnyH_ready (rs := [4]) (by kernel_rfl) (by simp) ?_
            refine AllReadyH.cons rfl (fun K hK => ?_) AllReadyH.nil
            go_simp
            go_at_call 192
            refine (spec_l01Own _ _ _ hdr.out (by rw [List.length_drop, hollH.out]; omega)).mono ?_
            rintro e vo ⟨u9, rfl, hU, hB9⟩
            replace hU := hU.rebase hD.grown.size
            replace hD := hD.below hB9
            replace htk := Lib.hid (htk.out.now hB9)
            clear hB9 hdr e0 e1
            obtain ⟨e0, e1⟩ := hD.box.c2
            refine hK.out _ _ ⟨e0, e1⟩ (fun hH => ?_)
            clear hK K
            try simp only [Act.put, List.setIfInBounds_toArray, List.set_cons_zero, List.set_cons_succ]
            refine wpAnyH_ready (rs := [8]) (by kernel_rfl) (by simp) ?_
            refine AllReadyH.cons rfl (fun K hK => ?_) AllReadyH.nil
            have hlen9 : (ol.drop k).length + (ol.take k).length ≤ 1099511627776 := by have := hollH.out; simp; omega
            refine step_append_lst rfl _ _ 38 rfl intCell 1 intCell_one (by omega) w.heap.size 2 _ 8 Try.underlying38 info_i64 rfl _ (ol.drop k) rfl hU _ _ _ _ (ol.take k) rfl (htk.out.take intCell_len k (by rw [hollH.out]; omega)) hlen9 (by omega) hD.grown.size ?_
            intro v' wz hO1 hG1 hD1
            have hD2 := hD.appU hU hG1
            clear hD hU hG1 hD1 htk e0 e1
            obtain ⟨e0, e1⟩ := hD2.box.c2
            refine hK.out _ _ ⟨e0, e1⟩ (fun hH => ?_)
            clear hK K
            try simp only [Act.put, List.setIfInBounds_toArray, List.set_cons_zero, List.set_cons_succ]
            have f0 := hD2.res.frozen 0
            have f1 := hD2.res.frozen 1
            have lb2 := hD2.res.lt
            obtain ⟨r0, r1⟩ := hD2.res.c2
            have hF := Lib.hid hD2.fin
            have hU8 := Lib.hid (own_far (own_far hO1 (p := ⟨b2, 0, none⟩) (hO1.ne_blk hD2.res (by decide)) (.int .i64 (n : Nat))) (p := ⟨b2, 1, none⟩) (hO1.ne_blk hD2.res (by decide)) (.slice A gp.length c))
            have hbx := (hD2.box.far (p := ⟨b2, 0, none⟩) (Ne.symm hD2.hne) (.int .i64 (n : Nat))).far (p := ⟨b2, 1, none⟩) (Ne.symm hD2.hne) (.slice A gp.length c)
            obtain ⟨x0, x1⟩ := hbx.c2
            refine wpAnyH_ready (rs := [9]) (by kernel_rfl) (by simp) ?_
            refine AllReadyH.cons rfl (fun K hK => ?_) AllReadyH.nil
            go_simp
            refine hK.out _ _ ⟨x0, x1⟩ (fun hH => ?_)
            clear hK K
            try simp only [Act.put, List.setIfInBounds_toArray, List.set_cons_zero, List.set_cons_succ]
            refine wpAnyH_take (i := 10) (oi := { dst := _, op := _, type := _, pos := _, after := _, guard := _ }) (v := ?_) rfl (by kernel_rfl) (by kernel_rfl) (by kernel_rfl) (fun _ _ _ h => h) (Or.inl ⟨by rfl, ?_⟩) hH ?_
            rotate_left
            · intro w9 hSw
              try dsimp only at hSw
              obtain ⟨s0, s1⟩ := hSw
              go_simp
              try with_reducible rfl
            try simp only [Act.put, List.setIfInBounds_toArray, List.set_cons_zero, List.set_cons_succ]
            refine wpAnyH_done (by kernel_rfl) ?_ _
            clear hH hbx x0 x1 e0 e1 hD2 hO1
            go_wp2
            refine bodyPost_ret (v := .tuple #[.agg #[.int .i64 (n : Nat), .slice A gp.length c], _]) (by simp [results, Try.results121, go_sem, r0, r1]) rfl ⟨(n : Int), gp, _, _, rfl, by omega, by omega, by omega, ol.drop k ++ ol.take k, by have := hollH.out; simp; omega, hF.out.1, hU8.out, hF.out.2⟩
          · have hoI : ¬ (0 : Int) < (out.length : Int) := by omega
            clear hL
            obtain ⟨p0, p1⟩ := hD.box.c2
            have lpb := hD.box.lt
            have hs9 := hD.grown.size
            have hZ : Below wq.heap.size wq (wq.alloc (.cells #[] 2)) := (Below.refl _ _).alloc (Nat.le_refl _) _
            have hU : Own intCell 1 2 (wq.alloc (.cells #[] 2)) w.heap.size (.slice (some ⟨wq.heap.size, 0, none⟩) 0 0) ([] : List Int) := own_new0 intCell 1 wq 2 w.heap.size hs9
            replace hD := hD.below hZ
            clear hZ hs9
            obtain ⟨e0, e1⟩ := hD.box.c2
            have lbg := hD.box.lt
            go_wp2_with fail
            clear e0 e1 lbg p0 p1 lpb
            refine (spec_l01Next g 4 _ hD.src (by omega)).mono ?_
            rintro e wt ⟨k4, rfl, hk4, hN⟩
            replace hU := own_draw hU (by decide) hD.src hN
            replace hD := hD.draw hN
            have hk41 : k4 < 4 := hk4.2.1 (by omega)
            have hk40 := hk4.1
            clear hk4 hN
            go_wp2
            go_loopw [7, 8] (fun uv kv wr => ∃ (l : List Int) (kk : Int), kv = .int .i64 kk ∧ 0 ≤ kk ∧ kk ≤ 3 ∧ (l.length : Int) ≤ 3 - kk ∧ Own intCell 1 2 wr w.heap.size uv l ∧ Dr w g b2 bg wr _ (.slice A gp.length c) gp) (fun _ kv _ => (intOf kv).toNat)
            case atStart => exact ⟨[], k4, rfl, hk40, by omega, by simp; omega, hU, hD⟩
            case round =>
              clear hU hD hk40 hk41
              obtain ⟨l, kk, rfl, hk0, hk1, hll, hU, hD⟩ := hrel
              obtain ⟨Y, cy, rfl⟩ := hU.shape
              obtain ⟨e0, e1⟩ := hD.box.c2
              have lbg := hD.box.lt
              by_cases hlt : 0 < kk
              · have wl : IntKind.i64.wrap ((gp.length : Int) + 1) = (gp.length : Int) + 1 := IntWalk.i64_in _ (by omega)
                have wk : IntKind.i64.wrap (kk - 1) = kk - 1 := IntWalk.i64_in _ (by omega)
                go_wp2_with fail
                clear e0 e1 lbg
                refine (spec_l01Next g ((gp.length : Int) + 1) _ hD.src (by omega)).mono ?_
                rintro e wu ⟨x1, rfl, hx1, hN⟩
                replace hU := own_draw hU (by decide) hD.src hN
                replace hD := hD.draw hN
                have hx10 := hx1.1
                have hx11 : x1 ≤ 41 := by obtain ⟨n1, n2, n3⟩ := hx1; omega
                clear hx1 hN
                go_wp2_with fail
                refine (spec_l01Next g 20 _ hD.src (by omega)).mono ?_
                rintro e wv ⟨x2, rfl, hx2, hN⟩
                replace hU := own_draw hU (by decide) hD.src hN
                replace hD := hD.draw hN
                have hx20 := hx2.1
                have hx21 : x2 < 20 := hx2.2.1 (by omega)
                clear hx2 hN
                have hq9 : Int.tdiv x2 19 = x2 / 19 := Int.tdiv_eq_ediv_of_nonneg hx20
                obtain ⟨d9, hd9⟩ : ∃ d9, x2 / 19 = d9 := ⟨_, rfl⟩
                rw [hd9] at hq9
                have wq : IntKind.i64.wrap d9 = d9 := IntWalk.i64_in _ (by omega)
                have wx : IntKind.i64.wrap (x1 - d9) = x1 - d9 := IntWalk.i64_in _ (by omega)
                have hZ : Below wv.heap.size wv (wv.alloc (.cells #[.int .i64 (x1 - d9)] 2)) := (Below.refl _ _).alloc (Nat.le_refl _) _
                have hU9 := Lib.hid (hU.now hZ)
                have hD9 := Lib.hid (hD.below hZ)
                have hlenA : l.length + [x1 - d9].length ≤ 1099511627776 := by simp; omega
                have hsz : Hid (w.heap.size ≤ (wv.alloc (.cells #[.int .i64 (x1 - d9)] 2)).heap.size) := hD9.out.grown.size
                clear hU hD hZ hd9
                go_wp2_with (at_builtin; refine wpList_append_lst rfl _ _ 38 rfl intCell 1 intCell_one (by omega) w.heap.size 2 _ 8 Try.underlying38 info_i64 rfl _ _ rfl hU9.out _ _ _ _ [x1 - d9] rfl (lst_new1 _ _ intCell_len _ _ _ _ rfl _ (by simp)) hlenA (by omega) hsz.out ?_; intro v' w9 hO1 hG1 hD1)
                go_roundw
                case rel => exact ⟨l ++ [x1 - d9], kk - 1, rfl, by omega, by omega, by simp; omega, hO1, hD9.out.appU hU9.out hG1⟩
                case measure => simp [intOf]; omega
              · have f0 := hD.res.frozen 0
                have f1 := hD.res.frozen 1
                have lb2 := hD.res.lt
                obtain ⟨r0, r1⟩ := hD.res.c2
                have hF := Lib.hid hD.fin
                have hU8 := Lib.hid (own_far (own_far hU (p := ⟨b2, 0, none⟩) (hU.ne_blk hD.res (by decide)) (.int .i64 (n : Nat))) (p := ⟨b2, 1, none⟩) (hU.ne_blk hD.res (by decide)) (.slice A gp.length c))
                go_wp2
                refine bodyPost_ret (v := .tuple #[.agg #[.int .i64 (n : Nat), .slice A gp.length c], .slice Y l.length cy]) (by simp [results, Try.results121, go_sem, r0, r1]) rfl ?_
                refine ⟨(n : Nat), gp, .slice A gp.length c, .slice Y l.length cy, rfl, by omega, by omega, by omega, l, by omega, hF.out.1, hU8.out, hF.out.2⟩
      · clear hokH
        obtain ⟨p0, p1⟩ := hD.box.c2
        have lpb := hD.box.lt
        have hs9 := hD.grown.size
        have hZ : Below wb.heap.size wb (wb.alloc (.cells #[] 2)) := (Below.refl _ _).alloc (Nat.le_refl _) _
        have hU : Own intCell 1 2 (wb.alloc (.cells #[] 2)) w.heap.size (.slice (some ⟨wb.heap.size, 0, none⟩) 0 0) ([] : List Int) := own_new0 intCell 1 wb 2 w.heap.size hs9
        replace hD := hD.below hZ
        clear hZ hs9
        obtain ⟨e0, e1⟩ := hD.box.c2
        have lbg := hD.box.lt
        go_wp2_with fail
        clear e0 e1 lbg p0 p1 lpb
        refine (spec_l01Next g 4 _ hD.src (by omega)).mono ?_
        rintro e wt ⟨k4, rfl, hk4, hN⟩
        replace hU := own_draw hU (by decide) hD.src hN
        replace hD := hD.draw hN
        have hk41 : k4 < 4 := hk4.2.1 (by omega)
        have hk40 := hk4.1
        clear hk4 hN
        go_wp2
        go_loopw [7, 8] (fun uv kv wr => ∃ (l : List Int) (kk : Int), kv = .int .i64 kk ∧ 0 ≤ kk ∧ kk ≤ 3 ∧ (l.length : Int) ≤ 3 - kk ∧ Own intCell 1 2 wr w.heap.size uv l ∧ Dr w g b2 bg wr _ (.slice A gp.length c) gp) (fun _ kv _ => (intOf kv).toNat)
        case atStart => exact ⟨[], k4, rfl, hk40, by omega, by simp; omega, hU, hD⟩
        case round =>
          clear hU hD hk40 hk41
          obtain ⟨l, kk, rfl, hk0, hk1, hll, hU, hD⟩ := hrel
          obtain ⟨Y, cy, rfl⟩ := hU.shape
          obtain ⟨e0, e1⟩ := hD.box.c2
          have lbg := hD.box.lt
          by_cases hlt : 0 < kk
          · have wl : IntKind.i64.wrap ((gp.length : Int) + 1) = (gp.length : Int) + 1 := IntWalk.i64_in _ (by omega)
            have wk : IntKind.i64.wrap (kk - 1) = kk - 1 := IntWalk.i64_in _ (by omega)
            go_wp2_with fail
            clear e0 e1 lbg
            refine (spec_l01Next g ((gp.length : Int) + 1) _ hD.src (by omega)).mono ?_
            rintro e wu ⟨x1, rfl, hx1, hN⟩
            replace hU := own_draw hU (by decide) hD.src hN
            replace hD := hD.draw hN
            have hx10 := hx1.1
            have hx11 : x1 ≤ 41 := by obtain ⟨n1, n2, n3⟩ := hx1; omega
            clear hx1 hN
            go_wp2_with fail
            refine (spec_l01Next g 20 _ hD.src (by omega)).mono ?_
            rintro e wv ⟨x2, rfl, hx2, hN⟩
            replace hU := own_draw hU (by decide) hD.src hN
            replace hD := hD.draw hN
            have hx20 := hx2.1
            have hx21 : x2 < 20 := hx2.2.1 (by omega)
            clear hx2 hN
            have hq9 : Int.tdiv x2 19 = x2 / 19 := Int.tdiv_eq_ediv_of_nonneg hx20
            obtain ⟨d9, hd9⟩ : ∃ d9, x2 / 19 = d9 := ⟨_, rfl⟩
            rw [hd9] at hq9
            have wq : IntKind.i64.wrap d9 = d9 := IntWalk.i64_in _ (by omega)
            have wx : IntKind.i64.wrap (x1 - d9) = x1 - d9 := IntWalk.i64_in _ (by omega)
            have hZ : Below wv.heap.size wv (wv.alloc (.cells #[.int .i64 (x1 - d9)] 2)) := (Below.refl _ _).alloc (Nat.le_refl _) _
            have hU9 := Lib.hid (hU.now hZ)
            have hD9 := Lib.hid (hD.below hZ)
            have hlenA : l.length + [x1 - d9].length ≤ 1099511627776 := by simp; omega
            have hsz : Hid (w.heap.size ≤ (wv.alloc (.cells #[.int .i64 (x1 - d9)] 2)).heap.size) := hD9.out.grown.size
            clear hU hD hZ hd9
            go_wp2_with (at_builtin; refine wpList_append_lst rfl _ _ 38 rfl intCell 1 intCell_one (by omega) w.heap.size 2 _ 8 Try.underlying38 info_i64 rfl _ _ rfl hU9.out _ _ _ _ [x1 - d9] rfl (lst_new1 _ _ intCell_len _ _ _ _ rfl _ (by simp)) hlenA (by omega) hsz.out ?_; intro v' w9 hO1 hG1 hD1)
            go_roundw
            case rel => exact ⟨l ++ [x1 - d9], kk - 1, rfl, by omega, by omega, by simp; omega, hO1, hD9.out.appU hU9.out hG1⟩
            case measure => simp [intOf]; omega
          · have f0 := hD.res.frozen 0
            have f1 := hD.res.frozen 1
            have lb2 := hD.res.lt
            obtain ⟨r0, r1⟩ := hD.res.c2
            have hF := Lib.hid hD.fin
            have hU8 := Lib.hid (own_far (own_far hU (p := ⟨b2, 0, none⟩) (hU.ne_blk hD.res (by decide)) (.int .i64 (n : Nat))) (p := ⟨b2, 1, none⟩) (hU.ne_blk hD.res (by decide)) (.slice A gp.length c))
            go_wp2
            refine bodyPost_ret (v := .tuple #[.agg #[.int .i64 (n : Nat), .slice A gp.length c], .slice Y l.length cy]) (by simp [results, Try.results121, go_sem, r0, r1]) rfl ?_
            refine ⟨(n : Nat), gp, .slice A gp.length c, .slice Y l.length cy, rfl, by omega, by omega, by omega, l, by omega, hF.out.1, hU8.out, hF.out.2⟩
    · have h20I : ¬ (gp.length : Int) < 20 := by omega
      clear hok
      obtain ⟨p0, p1⟩ := hD.box.c2
      have lpb := hD.box.lt
      have hs9 := hD.grown.size
      have hZ : Below wa.heap.size wa (wa.alloc (.cells #[] 2)) := (Below.refl _ _).alloc (Nat.le_refl _) _
      have hU : Own intCell 1 2 (wa.alloc (.cells #[] 2)) w.heap.size (.slice (some ⟨wa.heap.size, 0, none⟩) 0 0) ([] : List Int) := own_new0 intCell 1 wa 2 w.heap.size hs9
      replace hD := hD.below hZ
      clear hZ hs9
      obtain ⟨e0, e1⟩ := hD.box.c2
      have lbg := hD.box.lt
      go_wp2_with fail
      clear e0 e1 lbg p0 p1 lpb
      refine (spec_l01Next g 4 _ hD.src (by omega)).mono ?_
      rintro e wt ⟨k4, rfl, hk4, hN⟩
      replace hU := own_draw hU (by decide) hD.src hN
      replace hD := hD.draw hN
      have hk41 : k4 < 4 := hk4.2.1 (by omega)
      have hk40 := hk4.1
      clear hk4 hN
      go_wp2
      go_loopw [7, 8] (fun uv kv wr => ∃ (l : List Int) (kk : Int), kv = .int .i64 kk ∧ 0 ≤ kk ∧ kk ≤ 3 ∧ (l.length : Int) ≤ 3 - kk ∧ Own intCell 1 2 wr w.heap.size uv l ∧ Dr w g b2 bg wr _ (.slice A gp.length c) gp) (fun _ kv _ => (intOf kv).toNat)
      case atStart => exact ⟨[], k4, rfl, hk40, by omega, by simp; omega, hU, hD⟩
      case round =>
        clear hU hD hk40 hk41
        obtain ⟨l, kk, rfl, hk0, hk1, hll, hU, hD⟩ := hrel
        obtain ⟨Y, cy, rfl⟩ := hU.shape
        obtain ⟨e0, e1⟩ := hD.box.c2
        have lbg := hD.box.lt
        by_cases hlt : 0 < kk
        · have wl : IntKind.i64.wrap ((gp.length : Int) + 1) = (gp.length : Int) + 1 := IntWalk.i64_in _ (by omega)
          have wk : IntKind.i64.wrap (kk - 1) = kk - 1 := IntWalk.i64_in _ (by omega)
          go_wp2_with fail
          clear e0 e1 lbg
          refine (spec_l01Next g ((gp.length : Int) + 1) _ hD.src (by omega)).mono ?_
          rintro e wu ⟨x1, rfl, hx1, hN⟩
          replace hU := own_draw hU (by decide) hD.src hN
          replace hD := hD.draw hN
          have hx10 := hx1.1
          have hx11 : x1 ≤ 41 := by obtain ⟨n1, n2, n3⟩ := hx1; omega
          clear hx1 hN
          go_wp2_with fail
          refine (spec_l01Next g 20 _ hD.src (by omega)).mono ?_
          rintro e wv ⟨x2, rfl, hx2, hN⟩
          replace hU := own_draw hU (by decide) hD.src hN
          replace hD := hD.draw hN
          have hx20 := hx2.1
          have hx21 : x2 < 20 := hx2.2.1 (by omega)
          clear hx2 hN
          have hq9 : Int.tdiv x2 19 = x2 / 19 := Int.tdiv_eq_ediv_of_nonneg hx20
          obtain ⟨d9, hd9⟩ : ∃ d9, x2 / 19 = d9 := ⟨_, rfl⟩
          rw [hd9] at hq9
          have wq : IntKind.i64.wrap d9 = d9 := IntWalk.i64_in _ (by omega)
          have wx : IntKind.i64.wrap (x1 - d9) = x1 - d9 := IntWalk.i64_in _ (by omega)
          have hZ : Below wv.heap.size wv (wv.alloc (.cells #[.int .i64 (x1 - d9)] 2)) := (Below.refl _ _).alloc (Nat.le_refl _) _
          have hU9 := Lib.hid (hU.now hZ)
          have hD9 := Lib.hid (hD.below hZ)
          have hlenA : l.length + [x1 - d9].length ≤ 1099511627776 := by simp; omega
          have hsz : Hid (w.heap.size ≤ (wv.alloc (.cells #[.int .i64 (x1 - d9)] 2)).heap.size) := hD9.out.grown.size
          clear hU hD hZ hd9
          go_wp2_with (at_builtin; refine wpList_append_lst rfl _ _ 38 rfl intCell 1 intCell_one (by omega) w.heap.size 2 _ 8 Try.underlying38 info_i64 rfl _ _ rfl hU9.out _ _ _ _ [x1 - d9] rfl (lst_new1 _ _ intCell_len _ _ _ _ rfl _ (by simp)) hlenA (by omega) hsz.out ?_; intro v' w9 hO1 hG1 hD1)
          go_roundw
          case rel => exact ⟨l ++ [x1 - d9], kk - 1, rfl, by omega, by omega, by simp; omega, hO1, hD9.out.appU hU9.out hG1⟩
          case measure => simp [intOf]; omega
        · have f0 := hD.res.frozen 0
          have f1 := hD.res.frozen 1
          have lb2 := hD.res.lt
          obtain ⟨r0, r1⟩ := hD.res.c2
          have hF := Lib.hid hD.fin
          have hU8 := Lib.hid (own_far (own_far hU (p := ⟨b2, 0, none⟩) (hU.ne_blk hD.res (by decide)) (.int .i64 ge)) (p := ⟨b2, 1, none⟩) (hU.ne_blk hD.res (by decide)) (.slice A gp.length c))
          go_wp2
          refine bodyPost_ret (v := .tuple #[.agg #[.int .i64 ge, .slice A gp.length c], .slice Y l.length cy]) (by simp [results, Try.results121, go_sem, r0, r1]) rfl ?_
          refine ⟨ge, gp, .slice A gp.length c, .slice Y l.length cy, rfl, by omega, by omega, by omega, l, by omega, hF.out.1, hU8.out, hF.out.2⟩
set_option maxHeartbeats 4000000 in
set_option maxRecDepth 100000 in
theorem spec_DrawCircuitRatio (cv : Value) (bs : List Int) (w : World) (h0 : Lst byteCell 1 w w.heap.size cv bs) (hbv : Hid (∀ b ∈ bs, 0 ≤ b ∧ b ≤ 255)) :
    Calls Try.prog 49 #[cv] w fun e w' => ∃ ge gp v u, e = .returned (.tuple #[.agg #[.int .i64 ge, v], u]) ∧ 0 ≤ ge ∧ ge ≤ 11 ∧ gp.length ≤ 40 ∧ ∃ l : List Int, l.length ≤ 40 ∧ Own Place.cells 4 45 w' w.heap.size v gp ∧ Own intCell 1 2 w' w.heap.size u l ∧ Below w.heap.size w w' := by
  go_enter Try.func49, Try.ntmps49
  go_wp2_with fail
  have hA : Below w.heap.size w (w.alloc (.cells #[.int .i64 0, .slice none 0 0] 26)) := (Below.refl _ _).alloc (Nat.le_refl _) _
  have hres := Blk.newAt w (t := 26) (cs := #[.int .i64 0, .slice none 0 0]) _ rfl
  have hszA : (w.alloc (.cells #[.int .i64 0, .slice none 0 0] 26)).heap.size = w.heap.size + 1 := by simp
  refine (spec_l01From _ bs _ (h0.now hA) hbv).mono ?_
  rintro e w1 ⟨rfl, hS, hB1⟩
  rw [hszA] at hS hB1 ⊢
  have hB : Below w.heap.size w w1 := hA.trans (hB1.mono (by omega))
  replace hres := hres.below hB1 (by omega)
  obtain ⟨b2, hb2⟩ : ∃ b2, w.heap.size = b2 := ⟨_, rfl⟩
  obtain ⟨g, hg⟩ : ∃ g, w.heap.size + 1 = g := ⟨_, rfl⟩
  have hgb : w.heap.size ≤ g := by omega
  rw [hg] at hS ⊢
  rw [hb2] at hres
  rw [show (Value.pointer (some ⟨w.heap.size, 0, none⟩)) = .pointer (some ⟨b2, 0, none⟩) by rw [hb2]]
  have hb2w : w.heap.size ≤ b2 := by omega
  have hs1 := hB.size
  clear hA hszA hB1 hb2 hg
  go_wp2_with fail
  refine (spec_l15DrawCircuit g _ hS).mono ?_
  rintro e w2 ⟨ge, gp, v, u, rfl, hg0, hg1, hlen, l, hll, hO, hU, hN⟩
  obtain ⟨A, c, rfl⟩ := hO.shape
  obtain ⟨Y, cy, rfl⟩ := hU.shape
  replace hO := hO.rebase hs1
  replace hU := hU.rebase hs1
  replace hres := blk_draw hres (by decide) hS hN
  replace hB := below_draw hB hs1 hgb hN
  clear hN hs1 hS
  have f0 := hres.frozen 0
  have f1 := hres.frozen 1
  have lb2 := hres.lt
  obtain ⟨r0, r1⟩ := hres.c2
  have hq1 := Lib.hid (own_far (own_far hO (p := ⟨b2, 0, none⟩) (hO.ne_blk hres (by decide)) (.int .i64 ge)) (p := ⟨b2, 1, none⟩) (hO.ne_blk hres (by decide)) (.slice A gp.length c))
  have hq2 := Lib.hid (own_far (own_far hU (p := ⟨b2, 0, none⟩) (hU.ne_blk hres (by decide)) (.int .i64 ge)) (p := ⟨b2, 1, none⟩) (hU.ne_blk hres (by decide)) (.slice A gp.length c))
  have hq3 := Lib.hid ((hB.setCell (p := ⟨b2, 0, none⟩) hb2w (.int .i64 ge)).setCell (p := ⟨b2, 1, none⟩) hb2w (.slice A gp.length c))
  clear hO hU hres hB
  go_wp2
  refine bodyPost_ret (v := .tuple #[.agg #[.int .i64 ge, .slice A gp.length c], .slice Y l.length cy]) (by simp [results, Try.results49, go_sem, r0, r1]) rfl ⟨ge, gp, _, _, rfl, by omega, by omega, by omega, l, by omega, hq1.out, hq2.out, hq3.out⟩
set_option maxHeartbeats 4000000 in
set_option maxRecDepth 100000 in
theorem spec_DrawIsCircuit (cv : Value) (bs : List Int) (w : World) (h0 : Lst byteCell 1 w w.heap.size cv bs) (hbv : Hid (∀ b ∈ bs, 0 ≤ b ∧ b ≤ 255)) :
    Calls Try.prog 52 #[cv] w fun e w' => ∃ ge gp v u, e = .returned (.tuple #[.agg #[.int .i64 ge, v], u]) ∧ 0 ≤ ge ∧ ge ≤ 11 ∧ gp.length ≤ 40 ∧ ∃ l : List Int, l.length ≤ 40 ∧ Own Place.cells 4 45 w' w.heap.size v gp ∧ Own intCell 1 2 w' w.heap.size u l ∧ Below w.heap.size w w' := by
  go_enter Try.func52, Try.ntmps52
  go_wp2_with fail
  have hA : Below w.heap.size w (w.alloc (.cells #[.int .i64 0, .slice none 0 0] 26)) := (Below.refl _ _).alloc (Nat.le_refl _) _
  have hres := Blk.newAt w (t := 26) (cs := #[.int .i64 0, .slice none 0 0]) _ rfl
  have hszA : (w.alloc (.cells #[.int .i64 0, .slice none 0 0] 26)).heap.size = w.heap.size + 1 := by simp
  refine (spec_l01From _ bs _ (h0.now hA) hbv).mono ?_
  rintro e w1 ⟨rfl, hS, hB1⟩
  rw [hszA] at hS hB1 ⊢
  have hB : Below w.heap.size w w1 := hA.trans (hB1.mono (by omega))
  replace hres := hres.below hB1 (by omega)
  obtain ⟨b2, hb2⟩ : ∃ b2, w.heap.size = b2 := ⟨_, rfl⟩
  obtain ⟨g, hg⟩ : ∃ g, w.heap.size + 1 = g := ⟨_, rfl⟩
  have hgb : w.heap.size ≤ g := by omega
  rw [hg] at hS ⊢
  rw [hb2] at hres
  rw [show (Value.pointer (some ⟨w.heap.size, 0, none⟩)) = .pointer (some ⟨b2, 0, none⟩) by rw [hb2]]
  have hb2w : w.heap.size ≤ b2 := by omega
  have hs1 := hB.size
  clear hA hszA hB1 hb2 hg
  go_wp2_with fail
  refine (spec_l15DrawCircuit g _ hS).mono ?_
  rintro e w2 ⟨ge, gp, v, u, rfl, hg0, hg1, hlen, l, hll, hO, hU, hN⟩
  obtain ⟨A, c, rfl⟩ := hO.shape
  obtain ⟨Y, cy, rfl⟩ := hU.shape
  replace hO := hO.rebase hs1
  replace hU := hU.rebase hs1
  replace hres := blk_draw hres (by decide) hS hN
  replace hB := below_draw hB hs1 hgb hN
  clear hN hs1 hS
  have f0 := hres.frozen 0
  have f1 := hres.frozen 1
  have lb2 := hres.lt
  obtain ⟨r0, r1⟩ := hres.c2
  have hq1 := Lib.hid (own_far (own_far hO (p := ⟨b2, 0, none⟩) (hO.ne_blk hres (by decide)) (.int .i64 ge)) (p := ⟨b2, 1, none⟩) (hO.ne_blk hres (by decide)) (.slice A gp.length c))
  have hq2 := Lib.hid (own_far (own_far hU (p := ⟨b2, 0, none⟩) (hU.ne_blk hres (by decide)) (.int .i64 ge)) (p := ⟨b2, 1, none⟩) (hU.ne_blk hres (by decide)) (.slice A gp.length c))
  have hq3 := Lib.hid ((hB.setCell (p := ⟨b2, 0, none⟩) hb2w (.int .i64 ge)).setCell (p := ⟨b2, 1, none⟩) hb2w (.slice A gp.length c))
  clear hO hU hres hB
  go_wp2
  refine bodyPost_ret (v := .tuple #[.agg #[.int .i64 ge, .slice A gp.length c], .slice Y l.length cy]) (by simp [results, Try.results52, go_sem, r0, r1]) rfl ⟨ge, gp, _, _, rfl, by omega, by omega, by omega, l, by omega, hq1.out, hq2.out, hq3.out⟩
end Go.Proofs.Ytkbhbmoogkjafaa
