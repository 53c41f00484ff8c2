/-
  The walk of the draw of a graph and a run of it.
-/
import Derived.Test.YtlppfcamlggcnaaDoorDrC
import Derived.Test.YtlppfcamlggcnaaDoorRunS
import Derived.Test.YtlppfcamlggcnaaDoorLateP
namespace Go.Proofs.YtlppfcamlggcnaaDoor
open Go.RowKit
set_option linter.unusedVariables false
set_option linter.unusedSimpArgs false
section
variable {w0 W W' : World} {g b2 bg : Nat} {ge : Int} {v u : Value} {gp : List Place} {l : List Firing}
/-- The run's row has grown. -/
theorem Dr.beside (h : Dr w0 g b2 bg W ge v gp) (hU : Own Firing.cells 3 87 W w0.heap.size u l) (hG : W.grownBy W' u.ownBlock) : Dr w0 g b2 bg W' ge v gp := by
  have hg := h.hg
  refine ⟨h.src.kept hG (fun k e => by have := (hU.lt k e).1; omega), ?_, h.res.grown hG (fun e => hU.ne_blk h.res (by decide) e.symm), h.box.grown hG (fun e => hU.ne_blk h.box (by decide) e.symm), own_kept h.own hG (own_ne_own h.own hU (by decide)), h.hb2, h.hbg, h.hne, hg⟩
  have hG0 := h.grown
  exact ⟨hG.os.trans hG0.os, hG.tape.trans hG0.tape, hG.output.trans hG0.output, Nat.le_trans hG0.size hG.size, fun i hi hne => (hG.block i (Nat.lt_of_lt_of_le hi hG0.size) (fun e => by have := (hU.lt i e.symm).1; omega)).trans (hG0.block i hi hne)⟩
/-- One number of the run is turned. -/
theorem Dr.setRun {bu n c : Nat} (h : Dr w0 g b2 bg W ge v gp) (hU : Own Firing.cells 3 87 W w0.heap.size (.slice (some ⟨bu, 0, none⟩) n c) l) (j : Nat) (x : Value) : Dr w0 g b2 bg (W.setCell ⟨bu, j, none⟩ x) ge v gp :=
  h.other (p := ⟨bu, j, none⟩) (hU.lt bu rfl).1 (fun e => hU.ne_blk h.res (by decide) (congrArg some e)) (fun e => hU.ne_blk h.box (by decide) (congrArg some e)) (fun e => own_ne_own h.own hU (by decide) bu e rfl) x
theorem Dr.ownU (h : Dr w0 g b2 bg W ge v gp) (hU : Own Firing.cells 3 87 W w0.heap.size u l) (x y : Value) : Own Firing.cells 3 87 ((W.setCell ⟨b2, 0, none⟩ x).setCell ⟨b2, 1, none⟩ y) w0.heap.size u l :=
  own_far (own_far hU (p := ⟨b2, 0, none⟩) (hU.ne_blk h.res (by decide)) _) (p := ⟨b2, 1, none⟩) (hU.ne_blk h.res (by decide)) _
theorem Dr.finD (h : Dr w0 g b2 bg W ge v gp) (x y : Value) : Drawn w0 g ((W.setCell ⟨b2, 0, none⟩ x).setCell ⟨b2, 1, none⟩ y) := by
  have hg := h.hg
  have h2 := h.hb2
  refine ⟨(h.src.kept (grown_setC W ⟨b2, 0, none⟩ _) (fun k e => by injection e with e; simp only at e; omega)).kept (grown_setC _ ⟨b2, 1, none⟩ _) (fun k e => by injection e with e; simp only at e; omega), ?_⟩
  have hG := h.grown
  exact ⟨hG.os, hG.tape, hG.output, by simpa [World.setCell] using hG.size, fun i hi hne => (Below.heap_setCell _ ⟨b2, 1, none⟩ y i (by simp only; omega)).trans ((Below.heap_setCell W ⟨b2, 0, none⟩ _ i (by simp only; omega)).trans (hG.block i hi hne))⟩
theorem EarlOk.snoc' {c c' : Nat} {e n t : Int} (h : EarlOk ge c l) (hc : c ≤ c') (he : 0 ≤ e ∧ e < ge) (hn : n = (timesIn l e).length + 1) (ht : 0 ≤ t ∧ t ≤ (c' : Int)) : EarlOk ge c' (l ++ [⟨e, n, t⟩]) := by
  refine ⟨h.num.snoc hn, fun x hx => ?_⟩
  rcases List.mem_append.1 hx with hx | hx
  · have := h.rng x hx
    exact ⟨this.1, by omega⟩
  · rw [List.mem_singleton.1 hx]
    exact ⟨he, ht⟩
end
theorem info_firingE : (Tryd.prog.info? 87).map (fun i => (i.zero, i.size, i.bytes)) = some (some (.agg #[.int .i64 0, .int .i64 0, .int .i64 0]), 3, 24) := by kernel_rfl
set_option maxHeartbeats 4000000 in
set_option maxRecDepth 100000 in
theorem spec_l14Long (m : Int) (w : World) (h0 : 0 ≤ m ∧ m ≤ 1000) :
    Calls Tryd.prog 94 #[.int .i64 m] w fun e w' => ∃ u l, e = .returned u ∧ (l.length : Int) = m ∧ Own Firing.cells 3 87 w' w.heap.size u l ∧ Below w.heap.size w w' := by
  go_enter Tryd.func94, Tryd.ntmps94
  go_wp2
  have hA : Below w.heap.size w (w.alloc (.cells #[] 87)) := (Below.refl _ _).alloc (Nat.le_refl _) _
  have hO := own_new0 Firing.cells 3 w 87 w.heap.size (Nat.le_refl _)
  go_loopw [3, 4] (fun uv kv wr => ∃ (k : Nat) (l : List Firing) (UA : Option Addr) (uc : Nat), kv = .int .i64 ((k : Int) + 1) ∧ (k : Int) ≤ m ∧ uv = .slice UA k uc ∧ l.length = k ∧ Own Firing.cells 3 87 wr w.heap.size (.slice UA k uc) l ∧ Below w.heap.size w wr) (fun _ kv _ => m.toNat + 1 - (intOf kv).toNat)
  case atStart => exact ⟨0, [], _, 0, rfl, h0.1, rfl, rfl, hO, hA⟩
  case round =>
    clear hO hA
    obtain ⟨k, l, UA, uc, rfl, hk, rfl, hl, hO, hB⟩ := hrel
    by_cases hlt : (k : Int) < m
    · have hle : (k : Int) + 1 ≤ m := by omega
      have hZ : Below wr.heap.size wr (wr.alloc (.cells #[.int .i64 0, .int .i64 ((k : Int) + 1), .int .i64 ((k : Int) + 1)] 87)) := (Below.refl _ _).alloc (Nat.le_refl _) _
      have hOz := Lib.hid (hO.now hZ)
      have hBz := Lib.hid (hB.trans (hZ.mono hB.size))
      have hlen : l.length + [(⟨0, (k : Int) + 1, (k : Int) + 1⟩ : Firing)].length ≤ 1099511627776 := by simp; omega
      have hLL : Hid ((l ++ [(⟨0, (k : Int) + 1, (k : Int) + 1⟩ : Firing)]).length = k + 1) := by show _ = _; simp [hl]
      have hsz := hB.size
      clear hO hB hZ
      go_wp2_with (at_builtin; refine wpList_append_lst rfl _ _ 38 rfl Firing.cells 3 Firing.cells_one (by omega) w.heap.size 87 _ 24 Tryd.underlying38 info_firingE rfl _ _ rfl hOz.out _ _ _ _ [(⟨0, (k : Int) + 1, (k : Int) + 1⟩ : Firing)] rfl (lst_new1 _ _ Firing.cells_len _ _ _ _ rfl _ (by simp)) hlen (by omega) (Nat.le_trans hsz (by simp)) ?_; intro v' w9 hO1 hG1 hD1; obtain ⟨V1, cv1, rfl⟩ := own_shape_n hO1 hLL.out)
      have hB9 := hBz.out.grown hG1 hBz.out.size (fun q e => (hOz.out.lt q e).1)
      clear hG1 hD1 hOz hBz
      go_roundw
      case rel => exact ⟨k + 1, _, V1, cv1, by go_num, by omega, rfl, hLL.out, hO1, hB9⟩
      case measure => simp [intOf] <;> omega
    · have hnl : ¬ (k : Int) + 1 ≤ m := by omega
      go_wp2
      go_ret
      exact ⟨_, rfl, l, by omega, hO, hB⟩
set_option maxHeartbeats 16000000 in
set_option maxRecDepth 100000 in
theorem spec_l14Draw (g : Nat) (w : World) (h : Src w g) :
    Calls Tryd.prog 62 #[.pointer (some ⟨g, 0, none⟩)] w fun e w' => ∃ ge gp v u l, e = .returned (.tuple #[.agg #[.int .i64 ge, v], u]) ∧ 0 ≤ ge ∧ ge ≤ 11 ∧ gp.length ≤ 40 ∧ l.length ≤ 501 ∧ Own Place.cells 4 80 w' w.heap.size v gp ∧ Own Firing.cells 3 87 w' w.heap.size u l ∧ Drawn w g w' := by
  have hgw := h.lt
  go_enter Tryd.func62, Tryd.ntmps62
  go_wp2_with fail
  have hA : Below w.heap.size w (w.alloc (.cells #[.int .i64 0, .slice none 0 0] 27)) := (Below.refl _ _).alloc (Nat.le_refl _) _
  refine (spec_l11Draw g _ (h.now hA)).mono ?_
  rintro e w1 ⟨ge, gp, v, rfl, hg0, hg1, hlen, hO, hN⟩
  obtain ⟨A, c, rfl⟩ := hO.shape
  have hres := (Blk.new w 27 #[.int .i64 0, .slice none 0 0]).grown hN.2 (fun e => by injection e with e; omega)
  have hG1 := grown_trans (grown_of_below (r := some g) hA) hN.2
  have hs1 := hG1.size
  have hlt1 := hres.lt
  have hA2 : Below w1.heap.size w1 ((w1.alloc (.cells #[.int .i64 ge, .slice A gp.length c] 27)).alloc (.cells #[] 87)) := ((Below.refl _ _).alloc (Nat.le_refl _) _).alloc (by simp) _
  have hD : Dr w g w.heap.size w1.heap.size ((w1.alloc (.cells #[.int .i64 ge, .slice A gp.length c] 27)).alloc (.cells #[] 87)) ge (.slice A gp.length c) gp :=
    ⟨hN.1.now hA2, grown_trans hG1 (grown_of_below hA2), hres.now hA2, (Blk.newAt _ _ rfl).alloc _, (hO.rebase hA.size).now hA2, Nat.le_refl _, hs1, by omega, hgw⟩
  have hU : Own Firing.cells 3 87 ((w1.alloc (.cells #[.int .i64 ge, .slice A gp.length c] 27)).alloc (.cells #[] 87)) w.heap.size (.slice (some ⟨w1.heap.size + 1, 0, none⟩) 0 0) [] := by
    have := own_new0 Firing.cells 3 (w1.alloc (.cells #[.int .i64 ge, .slice A gp.length c] 27)) 87 w.heap.size (by simp; omega)
    simpa using this
  go_wp2_with fail
  obtain ⟨bg, hbg⟩ : ∃ bg, w1.heap.size = bg := ⟨_, rfl⟩
  obtain ⟨b2, hb2⟩ : ∃ b2, w.heap.size = b2 := ⟨_, rfl⟩
  have hD' : Dr w g b2 bg ((w1.alloc (.cells #[.int .i64 ge, .slice A gp.length c] 27)).alloc (.cells #[] 87)) ge (.slice A gp.length c) gp := by rw [← hb2, ← hbg]; exact hD
  rw [hbg] at hU ⊢
  rw [show (Value.pointer (some ⟨w.heap.size, 0, none⟩)) = .pointer (some ⟨b2, 0, none⟩) by rw [hb2]]
  clear hN hO hres hG1 hs1 hlt1 hD hA hA2 hbg hb2
  generalize (w1.alloc (.cells #[.int .i64 ge, .slice A gp.length c] 27)).alloc (.cells #[] 87) = W2 at *
  generalize bg + 1 = bu at *
  refine (spec_IsEventGraph _ ge gp _ hD'.own.lst).mono ?_
  rintro e w2 ⟨rfl, hB⟩
  replace hD' := hD'.below hB
  replace hU := hU.now hB
  clear hB
  obtain ⟨e0, e1⟩ := hD'.box.c2
  have lbg := hD'.box.lt
  cases hg : okGraph ge gp
  · have hl0 : ([] : List Firing).length ≤ 15 := by simp
    clear hg
    have f0 := hD'.res.frozen 0
    have f1 := hD'.res.frozen 1
    have lb2 := hD'.res.lt
    obtain ⟨r0, r1⟩ := hD'.res.c2
    have hq1 := Lib.hid hD'.fin
    have hq2 := Lib.hid (hD'.ownU hU (.int .i64 ge) (.slice A gp.length c))
    clear hD' hU
    go_wp2
    refine bodyPost_ret (v := .tuple #[.agg #[.int .i64 ge, .slice A gp.length c], _]) (by simp [results, Tryd.results62, go_sem, r0, r1]) rfl ⟨ge, gp, _, _, ([] : List Firing), rfl, by omega, by omega, by omega, by first | omega | (simp; omega), hq1.out.1, hq2.out, hq1.out.2⟩
  · have hgH := Lib.hid hg
    have hge := okGraph_ev hg
    clear hg
    go_wp2_with fail
    clear e0 e1 lbg
    refine (spec_l01Next g 16 _ hD'.src (by omega)).mono ?_
    rintro e w3 ⟨kk, rfl, hkk, hN⟩
    have hU3 := own_draw hU (by decide) hD'.src hN
    have hD3 := hD'.draw hN
    have hk16 : kk < 16 := hkk.2.1 (by omega)
    have hk0 := hkk.1
    have hE0 : Hid (EarlOk ge (2000 * ([] : List Firing).length) []) := ⟨fun i h => absurd h (by simp), fun x h => absurd h (by simp)⟩
    clear hkk hN hD' hU
    go_wp2
    go_loopw [5, 6, 7, 8, 9, 10] (fun rv nv kv _ _ _ wr => ∃ (k : Int) (l : List Firing) (RA : Option Addr) (rc : Nat) (nw : Int), kv = .int .i64 k ∧ 0 ≤ k ∧ (l.length : Int) + k ≤ 15 ∧ nv = .int .i64 nw ∧ (0 ≤ nw ∧ nw ≤ 2000 * (l.length : Int)) ∧ rv = .slice RA l.length rc ∧ Hid (EarlOk ge (2000 * l.length) l) ∧ Dr w g b2 bg wr ge (.slice A gp.length c) gp ∧ Own Firing.cells 3 87 wr w.heap.size (.slice RA l.length rc) l) (fun _ _ kv _ _ _ _ => (intOf kv).toNat)
    case atStart => exact ⟨kk, [], _, 0, 0, rfl, hk0, by simp; omega, rfl, by simp, rfl, hE0, hD3, hU3⟩
    case round =>
      clear hD3 hU3 hk16 hk0 hE0
      obtain ⟨k, l, RA, rc, nw, rfl, hk, hlk, rfl, hnw, rfl, hE, hD, hU⟩ := hrel
      obtain ⟨e0, e1⟩ := hD.box.c2
      have lbg := hD.box.lt
      by_cases hp : 0 < k
      · have wk : IntKind.i64.wrap (k - 1) = k - 1 := IntWalk.i64_in _ (by omega)
        go_wp2_with fail
        clear e0 e1 lbg
        refine (spec_l01Next g ge _ hD.src (by omega)).mono ?_
        rintro e wa ⟨ev, rfl, hev, hN⟩
        replace hU := own_draw hU (by decide) hD.src hN
        replace hD := hD.draw hN
        have hev0 := hev.1
        have hev1 : ev < ge := by
          rcases Int.lt_or_le 1 ge with h | h
          · exact hev.2.1 h
          · have := hev.2.2 h
            omega
        clear hev hN
        obtain ⟨e0, e1⟩ := hD.box.c2
        have lbg := hD.box.lt
        go_wp2_with fail
        clear e0 e1 lbg
        refine (l14Ready _ ge gp _ l ev wa hD.own.lst hU.lst hgH.out (by omega) (hE.out.run (by omega))).mono ?_
        rintro e wb ⟨rfl, hB⟩
        replace hD := hD.below hB
        replace hU := hU.now hB
        clear hB
        cases hr : readyS gp (timesIn l) ev with
        | none =>
          simp only [Option.isSome_none, Option.getD_none]
          clear hr
          go_wp2
          go_roundw
          case rel => exact ⟨k - 1, l, RA, rc, nw, rfl, by omega, by omega, rfl, hnw, rfl, hE, hD, hU⟩
          case measure => simp [intOf]; omega
        | some t =>
          have ht := readyS_bd hgH.out (timesIn l) ((2000 * l.length : Nat) : Int) (by omega) (fun i j => hE.out.times i j) ev gp.length (Nat.le_refl _) t (by rw [List.take_length]; exact hr)
          simp only [Option.isSome_some, Option.getD_some]
          clear hr
          go_wp2_with fail
          refine (spec_l01Next g 8 _ hD.src (by omega)).mono ?_
          rintro e wc ⟨x8, rfl, hx8, hN⟩
          replace hU := own_draw hU (by decide) hD.src hN
          replace hD := hD.draw hN
          have hx0 := hx8.1
          have hx1 : x8 < 8 := hx8.2.1 (by omega)
          obtain ⟨y, hy⟩ : ∃ y, x8 - 4 = y := ⟨_, rfl⟩
          have wx : IntKind.i64.wrap (x8 - 4) = y := by rw [hy]; exact IntWalk.i64_in _ (by omega)
          have hy1 : y ≤ 3 := by omega
          clear hx8 hN hy hx0 hx1
          by_cases hy0 : 0 < y
          · obtain ⟨s, hs⟩ : ∃ s, t + y = s := ⟨_, rfl⟩
            have ws : IntKind.i64.wrap (t + y) = s := by rw [hs]; exact IntWalk.i64_in _ (by omega)
            have hsb : 0 ≤ s ∧ s ≤ 2000 * (l.length : Int) + 1003 := by omega
            clear hs ht hy1
            by_cases hns : nw < s
            · skip
              have hcl : (timesIn l ev).length ≤ l.length := timesIn_len l ev
              obtain ⟨cn, hcn⟩ : ∃ cn, (timesIn l ev).length = cn := ⟨_, rfl⟩
              have hE' : Hid (EarlOk ge (2000 * (l ++ [(⟨ev, ((timesIn l ev).length : Int) + 1, s⟩ : Firing)]).length) (l ++ [(⟨ev, ((timesIn l ev).length : Int) + 1, s⟩ : Firing)])) := hE.out.snoc' (by simp; omega) ⟨hev0, hev1⟩ rfl (by simp only [List.length_append, List.length_cons, List.length_nil]; omega)
              rw [hcn] at hcl hE'
              have hcnH := Lib.hid hcn
              have hcU := Lib.hid (l14Count _ l ev wc hU.lst (by omega))
              rw [hcn] at hcU
              clear hcn
              have wn : IntKind.i64.wrap ((cn : Int) + 1) = (cn : Int) + 1 := IntWalk.i64_in _ (by omega)
              have hZ : Below wc.heap.size wc (wc.alloc (.cells #[.int .i64 ev, .int .i64 ((cn : Int) + 1), .int .i64 s] 87)) := (Below.refl _ _).alloc (Nat.le_refl _) _
              have hUz := Lib.hid (hU.now hZ)
              have hDz := Lib.hid (hD.below hZ)
              have hlen : l.length + [(⟨ev, (cn : Int) + 1, s⟩ : Firing)].length ≤ 1099511627776 := by simp; omega
              have hLL : Hid ((l ++ [(⟨ev, (cn : Int) + 1, s⟩ : Firing)]).length = l.length + 1) := by show _ = _; simp
              have hsz := hDz.out.grown.size
              clear hU hD hZ
              go_wp2_with fail
              refine (hcU.out).mono ?_
              rintro r wz ⟨rfl, rfl⟩
              go_wp2_with (at_builtin; refine wpList_append_lst rfl _ _ 38 rfl Firing.cells 3 Firing.cells_one (by omega) w.heap.size 87 _ 24 Tryd.underlying38 info_firingE rfl _ _ rfl hUz.out _ _ _ _ [(⟨ev, (cn : Int) + 1, s⟩ : Firing)] rfl (lst_new1 _ _ Firing.cells_len _ _ _ _ rfl _ (by simp)) hlen (by omega) hsz ?_; intro v' w9 hO1 hG1 hD1; obtain ⟨V1, cv1, rfl⟩ := own_shape_n hO1 hLL.out)
              have hD9 := hDz.out.beside hUz.out hG1
              clear hG1 hD1 hUz hDz
              go_roundw
              case rel => exact ⟨k - 1, l ++ [(⟨ev, (cn : Int) + 1, s⟩ : Firing)], V1, cv1, s, rfl, by omega, by rw [hLL.out]; omega, rfl, by rw [hLL.out]; omega, by rw [hLL.out], hE', hD9, by rw [hLL.out]; exact hO1⟩
              case measure => simp [intOf]; omega
            · skip
              have hcl : (timesIn l ev).length ≤ l.length := timesIn_len l ev
              obtain ⟨cn, hcn⟩ : ∃ cn, (timesIn l ev).length = cn := ⟨_, rfl⟩
              have hE' : Hid (EarlOk ge (2000 * (l ++ [(⟨ev, ((timesIn l ev).length : Int) + 1, nw⟩ : Firing)]).length) (l ++ [(⟨ev, ((timesIn l ev).length : Int) + 1, nw⟩ : Firing)])) := hE.out.snoc' (by simp; omega) ⟨hev0, hev1⟩ rfl (by simp only [List.length_append, List.length_cons, List.length_nil]; omega)
              rw [hcn] at hcl hE'
              have hcnH := Lib.hid hcn
              have hcU := Lib.hid (l14Count _ l ev wc hU.lst (by omega))
              rw [hcn] at hcU
              clear hcn
              have wn : IntKind.i64.wrap ((cn : Int) + 1) = (cn : Int) + 1 := IntWalk.i64_in _ (by omega)
              have hZ : Below wc.heap.size wc (wc.alloc (.cells #[.int .i64 ev, .int .i64 ((cn : Int) + 1), .int .i64 nw] 87)) := (Below.refl _ _).alloc (Nat.le_refl _) _
              have hUz := Lib.hid (hU.now hZ)
              have hDz := Lib.hid (hD.below hZ)
              have hlen : l.length + [(⟨ev, (cn : Int) + 1, nw⟩ : Firing)].length ≤ 1099511627776 := by simp; omega
              have hLL : Hid ((l ++ [(⟨ev, (cn : Int) + 1, nw⟩ : Firing)]).length = l.length + 1) := by show _ = _; simp
              have hsz := hDz.out.grown.size
              clear hU hD hZ
              go_wp2_with fail
              refine (hcU.out).mono ?_
              rintro r wz ⟨rfl, rfl⟩
              go_wp2_with (at_builtin; refine wpList_append_lst rfl _ _ 38 rfl Firing.cells 3 Firing.cells_one (by omega) w.heap.size 87 _ 24 Tryd.underlying38 info_firingE rfl _ _ rfl hUz.out _ _ _ _ [(⟨ev, (cn : Int) + 1, nw⟩ : Firing)] rfl (lst_new1 _ _ Firing.cells_len _ _ _ _ rfl _ (by simp)) hlen (by omega) hsz ?_; intro v' w9 hO1 hG1 hD1; obtain ⟨V1, cv1, rfl⟩ := own_shape_n hO1 hLL.out)
              have hD9 := hDz.out.beside hUz.out hG1
              clear hG1 hD1 hUz hDz
              go_roundw
              case rel => exact ⟨k - 1, l ++ [(⟨ev, (cn : Int) + 1, nw⟩ : Firing)], V1, cv1, nw, rfl, by omega, by rw [hLL.out]; omega, rfl, by rw [hLL.out]; omega, by rw [hLL.out], hE', hD9, by rw [hLL.out]; exact hO1⟩
              case measure => simp [intOf]; omega
          · have ws : IntKind.i64.wrap (t + 0) = t := (IntWalk.i64_in _ (by omega)).trans (by omega)
            have ws0 : IntKind.i64.wrap t = t := IntWalk.i64_in _ (by omega)
            have hsb : 0 ≤ t ∧ t ≤ 2000 * (l.length : Int) + 1003 := by omega
            clear ht hy1
            by_cases hns : nw < t
            · skip
              have hcl : (timesIn l ev).length ≤ l.length := timesIn_len l ev
              obtain ⟨cn, hcn⟩ : ∃ cn, (timesIn l ev).length = cn := ⟨_, rfl⟩
              have hE' : Hid (EarlOk ge (2000 * (l ++ [(⟨ev, ((timesIn l ev).length : Int) + 1, t⟩ : Firing)]).length) (l ++ [(⟨ev, ((timesIn l ev).length : Int) + 1, t⟩ : Firing)])) := hE.out.snoc' (by simp; omega) ⟨hev0, hev1⟩ rfl (by simp only [List.length_append, List.length_cons, List.length_nil]; omega)
              rw [hcn] at hcl hE'
              have hcnH := Lib.hid hcn
              have hcU := Lib.hid (l14Count _ l ev wc hU.lst (by omega))
              rw [hcn] at hcU
              clear hcn
              have wn : IntKind.i64.wrap ((cn : Int) + 1) = (cn : Int) + 1 := IntWalk.i64_in _ (by omega)
              have hZ : Below wc.heap.size wc (wc.alloc (.cells #[.int .i64 ev, .int .i64 ((cn : Int) + 1), .int .i64 t] 87)) := (Below.refl _ _).alloc (Nat.le_refl _) _
              have hUz := Lib.hid (hU.now hZ)
              have hDz := Lib.hid (hD.below hZ)
              have hlen : l.length + [(⟨ev, (cn : Int) + 1, t⟩ : Firing)].length ≤ 1099511627776 := by simp; omega
              have hLL : Hid ((l ++ [(⟨ev, (cn : Int) + 1, t⟩ : Firing)]).length = l.length + 1) := by show _ = _; simp
              have hsz := hDz.out.grown.size
              clear hU hD hZ
              go_wp2_with fail
              refine (hcU.out).mono ?_
              rintro r wz ⟨rfl, rfl⟩
              go_wp2_with (at_builtin; refine wpList_append_lst rfl _ _ 38 rfl Firing.cells 3 Firing.cells_one (by omega) w.heap.size 87 _ 24 Tryd.underlying38 info_firingE rfl _ _ rfl hUz.out _ _ _ _ [(⟨ev, (cn : Int) + 1, t⟩ : Firing)] rfl (lst_new1 _ _ Firing.cells_len _ _ _ _ rfl _ (by simp)) hlen (by omega) hsz ?_; intro v' w9 hO1 hG1 hD1; obtain ⟨V1, cv1, rfl⟩ := own_shape_n hO1 hLL.out)
              have hD9 := hDz.out.beside hUz.out hG1
              clear hG1 hD1 hUz hDz
              go_roundw
              case rel => exact ⟨k - 1, l ++ [(⟨ev, (cn : Int) + 1, t⟩ : Firing)], V1, cv1, t, rfl, by omega, by rw [hLL.out]; omega, rfl, by rw [hLL.out]; omega, by rw [hLL.out], hE', hD9, by rw [hLL.out]; exact hO1⟩
              case measure => simp [intOf]; omega
            · skip
              have hcl : (timesIn l ev).length ≤ l.length := timesIn_len l ev
              obtain ⟨cn, hcn⟩ : ∃ cn, (timesIn l ev).length = cn := ⟨_, rfl⟩
              have hE' : Hid (EarlOk ge (2000 * (l ++ [(⟨ev, ((timesIn l ev).length : Int) + 1, nw⟩ : Firing)]).length) (l ++ [(⟨ev, ((timesIn l ev).length : Int) + 1, nw⟩ : Firing)])) := hE.out.snoc' (by simp; omega) ⟨hev0, hev1⟩ rfl (by simp only [List.length_append, List.length_cons, List.length_nil]; omega)
              rw [hcn] at hcl hE'
              have hcnH := Lib.hid hcn
              have hcU := Lib.hid (l14Count _ l ev wc hU.lst (by omega))
              rw [hcn] at hcU
              clear hcn
              have wn : IntKind.i64.wrap ((cn : Int) + 1) = (cn : Int) + 1 := IntWalk.i64_in _ (by omega)
              have hZ : Below wc.heap.size wc (wc.alloc (.cells #[.int .i64 ev, .int .i64 ((cn : Int) + 1), .int .i64 nw] 87)) := (Below.refl _ _).alloc (Nat.le_refl _) _
              have hUz := Lib.hid (hU.now hZ)
              have hDz := Lib.hid (hD.below hZ)
              have hlen : l.length + [(⟨ev, (cn : Int) + 1, nw⟩ : Firing)].length ≤ 1099511627776 := by simp; omega
              have hLL : Hid ((l ++ [(⟨ev, (cn : Int) + 1, nw⟩ : Firing)]).length = l.length + 1) := by show _ = _; simp
              have hsz := hDz.out.grown.size
              clear hU hD hZ
              go_wp2_with fail
              refine (hcU.out).mono ?_
              rintro r wz ⟨rfl, rfl⟩
              go_wp2_with (at_builtin; refine wpList_append_lst rfl _ _ 38 rfl Firing.cells 3 Firing.cells_one (by omega) w.heap.size 87 _ 24 Tryd.underlying38 info_firingE rfl _ _ rfl hUz.out _ _ _ _ [(⟨ev, (cn : Int) + 1, nw⟩ : Firing)] rfl (lst_new1 _ _ Firing.cells_len _ _ _ _ rfl _ (by simp)) hlen (by omega) hsz ?_; intro v' w9 hO1 hG1 hD1; obtain ⟨V1, cv1, rfl⟩ := own_shape_n hO1 hLL.out)
              have hD9 := hDz.out.beside hUz.out hG1
              clear hG1 hD1 hUz hDz
              go_roundw
              case rel => exact ⟨k - 1, l ++ [(⟨ev, (cn : Int) + 1, nw⟩ : Firing)], V1, cv1, nw, rfl, by omega, by rw [hLL.out]; omega, rfl, by rw [hLL.out]; omega, by rw [hLL.out], hE', hD9, by rw [hLL.out]; exact hO1⟩
              case measure => simp [intOf]; omega
      · obtain rfl : k = 0 := by omega
        have hl15 : l.length ≤ 15 := by omega
        clear hE hnw hlk hk
        by_cases hl0 : 0 < l.length
        · have hl0I : (0 : Int) < (l.length : Int) := by omega
          obtain ⟨bu', cu', hu, hub, _, _, _⟩ := hU.at_ Firing.cells_len 0 hl0
          obtain rfl : RA = some ⟨bu', 0, none⟩ := by injection hu
          clear hu hub
          go_wp2_with fail
          clear e0 e1 lbg
          refine (spec_l01Next g (l.length : Int) _ hD.src (by omega)).mono ?_
          rintro e wa ⟨q, rfl, hq, hN⟩
          replace hU := own_draw hU (by decide) hD.src hN
          replace hD := hD.draw hN
          have hq0 := hq.1
          have hq1 : q < (l.length : Int) := by
            rcases Int.lt_or_le 1 (l.length : Int) with h | h
            · exact hq.2.1 h
            · have := hq.2.2 h
              omega
          clear hq hN
          obtain ⟨q, rfl⟩ := Int.eq_ofNat_of_zero_le hq0
          go_wp2_with fail
          refine (spec_l01Next g 16 _ hD.src (by omega)).mono ?_
          rintro e wb ⟨x, rfl, hx, hN⟩
          replace hU := own_draw hU (by decide) hD.src hN
          replace hD := hD.draw hN
          clear hx hN
          by_cases x0 : x = 0
          · subst x0
            obtain ⟨t1, ht1⟩ : ∃ t1, IntKind.i64.wrap (l[q].time - 1) = t1 := ⟨_, rfl⟩
            have i1 : (0 : Int) ≤ (q : Int) := by omega
            have i2 : (q : Int) < (l.length : Int) := by omega
            obtain ⟨_, hbl, hfz, c0, c1, c2⟩ := own_firings_at hU q (by omega)
            have hU' := Lib.hid (hU.put Firing.cells_len q 2 (by omega) (by omega) (⟨l[q].event, l[q].number, t1⟩ : Firing) (.int .i64 t1) rfl (q * 3 + 2) (by omega))
            have hD' := Lib.hid (hD.setRun hU (q * 3 + 2) (.int .i64 t1))
            have hlx : (l.set q (⟨l[q].event, l[q].number, t1⟩ : Firing)).length ≤ 15 := by simp; omega
            have hLn : Hid ((l.set q (⟨l[q].event, l[q].number, t1⟩ : Firing)).length = l.length) := by show _ = _; simp
            clear hD hU
            go_wp2_with fail
            clear hbl hfz c0 c1 c2
            have hD := hD'.out
            have hU := hU'.out
            clear hD' hU'
            refine (spec_l01Next g 60 _ hD.src (by omega)).mono ?_
            rintro e wy ⟨y60, rfl, hy60, hN⟩
            have hUy := own_draw hU (by decide) hD.src hN
            have hDy := hD.draw hN
            clear hy60 hN hD hU
            by_cases hz : y60 = 0
            · have q60 : (y60 == 0) = true := by simp [hz]
              clear hz hUy
              have hZ : Below wy.heap.size wy ((wy.alloc (.cells #[] 80)).alloc (.cells #[.int .i64 50, .int .i64 51, .int .i64 500, .int .i64 501] 2)) := ((Below.refl _ _).alloc (Nat.le_refl _) _).alloc (by simp) _
              have hDz := hDy.below hZ
              have hEz : Own Place.cells 4 80 ((wy.alloc (.cells #[] 80)).alloc (.cells #[.int .i64 50, .int .i64 51, .int .i64 500, .int .i64 501] 2)) w.heap.size (.slice (some ⟨wy.heap.size, 0, none⟩) 0 0) ([] : List Place) := (own_new0 Place.cells 4 wy 80 w.heap.size hDy.grown.size).alloc _
              clear hZ hDy
              go_wp2_with fail
              refine (spec_l01Pick g (wy.heap.size + 1) [50, 51, 500, 501] _ hDz.src (Blk.newAt _ _ (by simp)) (by simp) (by simp)).mono ?_
              rintro e wp ⟨pk, hpk, rfl, hN⟩
              have hEp := own_draw hEz (by decide) hDz.src hN
              have hDp := hDz.draw hN
              have hpb : 0 ≤ pk ∧ pk ≤ 501 := by simp at hpk; omega
              clear hpk hN hEz hDz
              go_wp2_with fail
              refine (spec_l14Long pk _ (by omega)).mono ?_
              rintro e wq ⟨uq, lq, rfl, hlq, hOq, hB⟩
              have hDq := hDp.below hB
              have hEq := hEp.now hB
              have hOw := hOq.rebase hDp.grown.size
              obtain ⟨UQ, uqc, rfl⟩ := hOw.shape
              clear hOq hEp hDp hB
              have f0 := hDq.res.frozen 0
              have f1 := hDq.res.frozen 1
              have lb2 := hDq.res.lt
              obtain ⟨r0, r1⟩ := hDq.res.c2
              have hq1 := Lib.hid (own_far (own_far hEq (p := ⟨b2, 0, none⟩) (hEq.ne_blk hDq.res (by decide)) (.int .i64 1)) (p := ⟨b2, 1, none⟩) (hEq.ne_blk hDq.res (by decide)) (.slice (some ⟨wy.heap.size, 0, none⟩) 0 0))
              have hq2 := Lib.hid (hDq.ownU hOw (.int .i64 1) (.slice (some ⟨wy.heap.size, 0, none⟩) 0 0))
              have hq3 := Lib.hid (hDq.finD (.int .i64 1) (.slice (some ⟨wy.heap.size, 0, none⟩) 0 0))
              clear hEq hOw hDq
              go_wp2
              refine bodyPost_ret (v := .tuple #[.agg #[.int .i64 1, .slice (some ⟨wy.heap.size, 0, none⟩) 0 0], _]) (by simp [results, Tryd.results62, go_sem, r0, r1]) rfl ⟨1, [], _, _, lq, rfl, by omega, by omega, by simp, by omega, hq1.out, hq2.out, hq3.out⟩
            · have q60 : (y60 == 0) = false := by simpa using hz
              clear hz
              obtain ⟨e0, e1⟩ := hDy.box.c2
              have lbg := hDy.box.lt
              have f0 := hDy.res.frozen 0
              have f1 := hDy.res.frozen 1
              have lb2 := hDy.res.lt
              obtain ⟨r0, r1⟩ := hDy.res.c2
              have hq1 := Lib.hid hDy.fin
              have hq2 := Lib.hid (hDy.ownU hUy (.int .i64 ge) (.slice A gp.length c))
              clear hDy hUy
              go_wp2
              refine bodyPost_ret (v := .tuple #[.agg #[.int .i64 ge, .slice A gp.length c], _]) (by simp [results, Tryd.results62, go_sem, r0, r1]) rfl ⟨ge, gp, _, _, (l.set q (⟨l[q].event, l[q].number, t1⟩ : Firing)), rfl, by omega, by omega, by omega, by first | omega | (simp; omega), hq1.out.1, hq2.out, hq1.out.2⟩
          · have y0 : (x == 0) = false := by simpa using x0
            by_cases x1 : x = 1
            · subst x1
              have i1 : (0 : Int) ≤ (q : Int) := by omega
              have i2 : (q : Int) < (l.length : Int) := by omega
              obtain ⟨n1, hn1⟩ : ∃ n1, IntKind.i64.wrap (l[q].number + 1) = n1 := ⟨_, rfl⟩
              obtain ⟨_, _, _, c0, c1, c2⟩ := own_firings_at hU q (by omega)
              go_wp2_with fail
              clear c0 c1 c2 hn1
              have hZ : Below wb.heap.size wb (wb.alloc (.cells #[.int .i64 0, .int .i64 n1] 2)) := (Below.refl _ _).alloc (Nat.le_refl _) _
              replace hD := hD.below hZ
              replace hU := hU.now hZ
              clear hZ
              refine (spec_l01Pick g wb.heap.size [0, n1] _ hD.src (Blk.newAt _ _ rfl) (by simp) (by simp)).mono ?_
              rintro e wk ⟨pk, hpk, rfl, hN⟩
              replace hU := own_draw hU (by decide) hD.src hN
              replace hD := hD.draw hN
              clear hpk hN
              obtain ⟨_, hbl, hfz, c0, c1, c2⟩ := own_firings_at hU q (by omega)
              have hU' := Lib.hid (hU.put Firing.cells_len q 1 (by omega) (by omega) (⟨l[q].event, pk, l[q].time⟩ : Firing) (.int .i64 pk) rfl (q * 3 + 1) (by omega))
              have hD' := Lib.hid (hD.setRun hU (q * 3 + 1) (.int .i64 pk))
              have hlx : (l.set q (⟨l[q].event, pk, l[q].time⟩ : Firing)).length ≤ 15 := by simp; omega
              have hLn : Hid ((l.set q (⟨l[q].event, pk, l[q].time⟩ : Firing)).length = l.length) := by show _ = _; simp
              clear hD hU
              go_wp2_with fail
              clear hbl hfz c0 c1 c2
              have hD := hD'.out
              have hU := hU'.out
              clear hD' hU'
              refine (spec_l01Next g 60 _ hD.src (by omega)).mono ?_
              rintro e wy ⟨y60, rfl, hy60, hN⟩
              have hUy := own_draw hU (by decide) hD.src hN
              have hDy := hD.draw hN
              clear hy60 hN hD hU
              by_cases hz : y60 = 0
              · have q60 : (y60 == 0) = true := by simp [hz]
                clear hz hUy
                have hZ : Below wy.heap.size wy ((wy.alloc (.cells #[] 80)).alloc (.cells #[.int .i64 50, .int .i64 51, .int .i64 500, .int .i64 501] 2)) := ((Below.refl _ _).alloc (Nat.le_refl _) _).alloc (by simp) _
                have hDz := hDy.below hZ
                have hEz : Own Place.cells 4 80 ((wy.alloc (.cells #[] 80)).alloc (.cells #[.int .i64 50, .int .i64 51, .int .i64 500, .int .i64 501] 2)) w.heap.size (.slice (some ⟨wy.heap.size, 0, none⟩) 0 0) ([] : List Place) := (own_new0 Place.cells 4 wy 80 w.heap.size hDy.grown.size).alloc _
                clear hZ hDy
                go_wp2_with fail
                refine (spec_l01Pick g (wy.heap.size + 1) [50, 51, 500, 501] _ hDz.src (Blk.newAt _ _ (by simp)) (by simp) (by simp)).mono ?_
                rintro e wp ⟨pk, hpk, rfl, hN⟩
                have hEp := own_draw hEz (by decide) hDz.src hN
                have hDp := hDz.draw hN
                have hpb : 0 ≤ pk ∧ pk ≤ 501 := by simp at hpk; omega
                clear hpk hN hEz hDz
                go_wp2_with fail
                refine (spec_l14Long pk _ (by omega)).mono ?_
                rintro e wq ⟨uq, lq, rfl, hlq, hOq, hB⟩
                have hDq := hDp.below hB
                have hEq := hEp.now hB
                have hOw := hOq.rebase hDp.grown.size
                obtain ⟨UQ, uqc, rfl⟩ := hOw.shape
                clear hOq hEp hDp hB
                have f0 := hDq.res.frozen 0
                have f1 := hDq.res.frozen 1
                have lb2 := hDq.res.lt
                obtain ⟨r0, r1⟩ := hDq.res.c2
                have hq1 := Lib.hid (own_far (own_far hEq (p := ⟨b2, 0, none⟩) (hEq.ne_blk hDq.res (by decide)) (.int .i64 1)) (p := ⟨b2, 1, none⟩) (hEq.ne_blk hDq.res (by decide)) (.slice (some ⟨wy.heap.size, 0, none⟩) 0 0))
                have hq2 := Lib.hid (hDq.ownU hOw (.int .i64 1) (.slice (some ⟨wy.heap.size, 0, none⟩) 0 0))
                have hq3 := Lib.hid (hDq.finD (.int .i64 1) (.slice (some ⟨wy.heap.size, 0, none⟩) 0 0))
                clear hEq hOw hDq
                go_wp2
                refine bodyPost_ret (v := .tuple #[.agg #[.int .i64 1, .slice (some ⟨wy.heap.size, 0, none⟩) 0 0], _]) (by simp [results, Tryd.results62, go_sem, r0, r1]) rfl ⟨1, [], _, _, lq, rfl, by omega, by omega, by simp, by omega, hq1.out, hq2.out, hq3.out⟩
              · have q60 : (y60 == 0) = false := by simpa using hz
                clear hz
                obtain ⟨e0, e1⟩ := hDy.box.c2
                have lbg := hDy.box.lt
                have f0 := hDy.res.frozen 0
                have f1 := hDy.res.frozen 1
                have lb2 := hDy.res.lt
                obtain ⟨r0, r1⟩ := hDy.res.c2
                have hq1 := Lib.hid hDy.fin
                have hq2 := Lib.hid (hDy.ownU hUy (.int .i64 ge) (.slice A gp.length c))
                clear hDy hUy
                go_wp2
                refine bodyPost_ret (v := .tuple #[.agg #[.int .i64 ge, .slice A gp.length c], _]) (by simp [results, Tryd.results62, go_sem, r0, r1]) rfl ⟨ge, gp, _, _, (l.set q (⟨l[q].event, pk, l[q].time⟩ : Firing)), rfl, by omega, by omega, by omega, by first | omega | (simp; omega), hq1.out.1, hq2.out, hq1.out.2⟩
            · have y1 : (x == 1) = false := by simpa using x1
              by_cases x2 : x = 2
              · subst x2
                have i1 : (0 : Int) ≤ (q : Int) := by omega
                have i2 : (q : Int) < (l.length : Int) := by omega
                obtain ⟨e0, e1⟩ := hD.box.c2
                have lbg := hD.box.lt
                go_wp2_with fail
                clear e0 e1 lbg
                have hZ : Below wb.heap.size wb (wb.alloc (.cells #[.int .i64 (-1), .int .i64 ge, .int .i64 0] 2)) := (Below.refl _ _).alloc (Nat.le_refl _) _
                replace hD := hD.below hZ
                replace hU := hU.now hZ
                clear hZ
                refine (spec_l01Pick g wb.heap.size [-1, ge, 0] _ hD.src (Blk.newAt _ _ rfl) (by simp) (by simp)).mono ?_
                rintro e wk ⟨pk, hpk, rfl, hN⟩
                replace hU := own_draw hU (by decide) hD.src hN
                replace hD := hD.draw hN
                clear hpk hN
                obtain ⟨_, hbl, hfz, c0, c1, c2⟩ := own_firings_at hU q (by omega)
                have hU' := Lib.hid (hU.put Firing.cells_len q 0 (by omega) (by omega) (⟨pk, l[q].number, l[q].time⟩ : Firing) (.int .i64 pk) rfl (q * 3) (by omega))
                have hD' := Lib.hid (hD.setRun hU (q * 3) (.int .i64 pk))
                have hlx : (l.set q (⟨pk, l[q].number, l[q].time⟩ : Firing)).length ≤ 15 := by simp; omega
                have hLn : Hid ((l.set q (⟨pk, l[q].number, l[q].time⟩ : Firing)).length = l.length) := by show _ = _; simp
                clear hD hU
                go_wp2_with fail
                clear hbl hfz c0 c1 c2
                have hD := hD'.out
                have hU := hU'.out
                clear hD' hU'
                refine (spec_l01Next g 60 _ hD.src (by omega)).mono ?_
                rintro e wy ⟨y60, rfl, hy60, hN⟩
                have hUy := own_draw hU (by decide) hD.src hN
                have hDy := hD.draw hN
                clear hy60 hN hD hU
                by_cases hz : y60 = 0
                · have q60 : (y60 == 0) = true := by simp [hz]
                  clear hz hUy
                  have hZ : Below wy.heap.size wy ((wy.alloc (.cells #[] 80)).alloc (.cells #[.int .i64 50, .int .i64 51, .int .i64 500, .int .i64 501] 2)) := ((Below.refl _ _).alloc (Nat.le_refl _) _).alloc (by simp) _
                  have hDz := hDy.below hZ
                  have hEz : Own Place.cells 4 80 ((wy.alloc (.cells #[] 80)).alloc (.cells #[.int .i64 50, .int .i64 51, .int .i64 500, .int .i64 501] 2)) w.heap.size (.slice (some ⟨wy.heap.size, 0, none⟩) 0 0) ([] : List Place) := (own_new0 Place.cells 4 wy 80 w.heap.size hDy.grown.size).alloc _
                  clear hZ hDy
                  go_wp2_with fail
                  refine (spec_l01Pick g (wy.heap.size + 1) [50, 51, 500, 501] _ hDz.src (Blk.newAt _ _ (by simp)) (by simp) (by simp)).mono ?_
                  rintro e wp ⟨pk, hpk, rfl, hN⟩
                  have hEp := own_draw hEz (by decide) hDz.src hN
                  have hDp := hDz.draw hN
                  have hpb : 0 ≤ pk ∧ pk ≤ 501 := by simp at hpk; omega
                  clear hpk hN hEz hDz
                  go_wp2_with fail
                  refine (spec_l14Long pk _ (by omega)).mono ?_
                  rintro e wq ⟨uq, lq, rfl, hlq, hOq, hB⟩
                  have hDq := hDp.below hB
                  have hEq := hEp.now hB
                  have hOw := hOq.rebase hDp.grown.size
                  obtain ⟨UQ, uqc, rfl⟩ := hOw.shape
                  clear hOq hEp hDp hB
                  have f0 := hDq.res.frozen 0
                  have f1 := hDq.res.frozen 1
                  have lb2 := hDq.res.lt
                  obtain ⟨r0, r1⟩ := hDq.res.c2
                  have hq1 := Lib.hid (own_far (own_far hEq (p := ⟨b2, 0, none⟩) (hEq.ne_blk hDq.res (by decide)) (.int .i64 1)) (p := ⟨b2, 1, none⟩) (hEq.ne_blk hDq.res (by decide)) (.slice (some ⟨wy.heap.size, 0, none⟩) 0 0))
                  have hq2 := Lib.hid (hDq.ownU hOw (.int .i64 1) (.slice (some ⟨wy.heap.size, 0, none⟩) 0 0))
                  have hq3 := Lib.hid (hDq.finD (.int .i64 1) (.slice (some ⟨wy.heap.size, 0, none⟩) 0 0))
                  clear hEq hOw hDq
                  go_wp2
                  refine bodyPost_ret (v := .tuple #[.agg #[.int .i64 1, .slice (some ⟨wy.heap.size, 0, none⟩) 0 0], _]) (by simp [results, Tryd.results62, go_sem, r0, r1]) rfl ⟨1, [], _, _, lq, rfl, by omega, by omega, by simp, by omega, hq1.out, hq2.out, hq3.out⟩
                · have q60 : (y60 == 0) = false := by simpa using hz
                  clear hz
                  obtain ⟨e0, e1⟩ := hDy.box.c2
                  have lbg := hDy.box.lt
                  have f0 := hDy.res.frozen 0
                  have f1 := hDy.res.frozen 1
                  have lb2 := hDy.res.lt
                  obtain ⟨r0, r1⟩ := hDy.res.c2
                  have hq1 := Lib.hid hDy.fin
                  have hq2 := Lib.hid (hDy.ownU hUy (.int .i64 ge) (.slice A gp.length c))
                  clear hDy hUy
                  go_wp2
                  refine bodyPost_ret (v := .tuple #[.agg #[.int .i64 ge, .slice A gp.length c], _]) (by simp [results, Tryd.results62, go_sem, r0, r1]) rfl ⟨ge, gp, _, _, (l.set q (⟨pk, l[q].number, l[q].time⟩ : Firing)), rfl, by omega, by omega, by omega, by first | omega | (simp; omega), hq1.out.1, hq2.out, hq1.out.2⟩
              · have y2 : (x == 2) = false := by simpa using x2
                by_cases x3 : x = 3
                · subst x3
                  obtain ⟨P, hP⟩ : ∃ P : Nat, l.length - 1 = P := ⟨_, rfl⟩
                  have hPl : P < l.length := by omega
                  have wP : IntKind.i64.wrap ((l.length : Int) - 1) = (P : Int) := (IntWalk.i64_in _ (by omega)).trans (by omega)
                  have i1 : (0 : Int) ≤ (P : Int) := by omega
                  have i2 : (P : Int) < (l.length : Int) := by omega
                  clear hP
                  go_wp2_with fail
                  have hZ : Below wb.heap.size wb (wb.alloc (.cells #[.int .i64 1000000, .int .i64 1000001, .int .i64 9223372036854775807] 2)) := (Below.refl _ _).alloc (Nat.le_refl _) _
                  replace hD := hD.below hZ
                  replace hU := hU.now hZ
                  clear hZ
                  refine (spec_l01Pick g wb.heap.size [1000000, 1000001, 9223372036854775807] _ hD.src (Blk.newAt _ _ rfl) (by simp) (by simp)).mono ?_
                  rintro e wk ⟨pk, hpk, rfl, hN⟩
                  replace hU := own_draw hU (by decide) hD.src hN
                  replace hD := hD.draw hN
                  clear hpk hN
                  obtain ⟨_, hbl, hfz, c0, c1, c2⟩ := own_firings_at hU P (by omega)
                  have hU' := Lib.hid (hU.put Firing.cells_len P 2 (by omega) (by omega) (⟨l[P].event, l[P].number, pk⟩ : Firing) (.int .i64 pk) rfl (P * 3 + 2) (by omega))
                  have hD' := Lib.hid (hD.setRun hU (P * 3 + 2) (.int .i64 pk))
                  have hlx : (l.set P (⟨l[P].event, l[P].number, pk⟩ : Firing)).length ≤ 15 := by simp; omega
                  have hLn : Hid ((l.set P (⟨l[P].event, l[P].number, pk⟩ : Firing)).length = l.length) := by show _ = _; simp
                  clear hD hU
                  go_wp2_with fail
                  clear hbl hfz c0 c1 c2
                  have hD := hD'.out
                  have hU := hU'.out
                  clear hD' hU'
                  refine (spec_l01Next g 60 _ hD.src (by omega)).mono ?_
                  rintro e wy ⟨y60, rfl, hy60, hN⟩
                  have hUy := own_draw hU (by decide) hD.src hN
                  have hDy := hD.draw hN
                  clear hy60 hN hD hU
                  by_cases hz : y60 = 0
                  · have q60 : (y60 == 0) = true := by simp [hz]
                    clear hz hUy
                    have hZ : Below wy.heap.size wy ((wy.alloc (.cells #[] 80)).alloc (.cells #[.int .i64 50, .int .i64 51, .int .i64 500, .int .i64 501] 2)) := ((Below.refl _ _).alloc (Nat.le_refl _) _).alloc (by simp) _
                    have hDz := hDy.below hZ
                    have hEz : Own Place.cells 4 80 ((wy.alloc (.cells #[] 80)).alloc (.cells #[.int .i64 50, .int .i64 51, .int .i64 500, .int .i64 501] 2)) w.heap.size (.slice (some ⟨wy.heap.size, 0, none⟩) 0 0) ([] : List Place) := (own_new0 Place.cells 4 wy 80 w.heap.size hDy.grown.size).alloc _
                    clear hZ hDy
                    go_wp2_with fail
                    refine (spec_l01Pick g (wy.heap.size + 1) [50, 51, 500, 501] _ hDz.src (Blk.newAt _ _ (by simp)) (by simp) (by simp)).mono ?_
                    rintro e wp ⟨pk, hpk, rfl, hN⟩
                    have hEp := own_draw hEz (by decide) hDz.src hN
                    have hDp := hDz.draw hN
                    have hpb : 0 ≤ pk ∧ pk ≤ 501 := by simp at hpk; omega
                    clear hpk hN hEz hDz
                    go_wp2_with fail
                    refine (spec_l14Long pk _ (by omega)).mono ?_
                    rintro e wq ⟨uq, lq, rfl, hlq, hOq, hB⟩
                    have hDq := hDp.below hB
                    have hEq := hEp.now hB
                    have hOw := hOq.rebase hDp.grown.size
                    obtain ⟨UQ, uqc, rfl⟩ := hOw.shape
                    clear hOq hEp hDp hB
                    have f0 := hDq.res.frozen 0
                    have f1 := hDq.res.frozen 1
                    have lb2 := hDq.res.lt
                    obtain ⟨r0, r1⟩ := hDq.res.c2
                    have hq1 := Lib.hid (own_far (own_far hEq (p := ⟨b2, 0, none⟩) (hEq.ne_blk hDq.res (by decide)) (.int .i64 1)) (p := ⟨b2, 1, none⟩) (hEq.ne_blk hDq.res (by decide)) (.slice (some ⟨wy.heap.size, 0, none⟩) 0 0))
                    have hq2 := Lib.hid (hDq.ownU hOw (.int .i64 1) (.slice (some ⟨wy.heap.size, 0, none⟩) 0 0))
                    have hq3 := Lib.hid (hDq.finD (.int .i64 1) (.slice (some ⟨wy.heap.size, 0, none⟩) 0 0))
                    clear hEq hOw hDq
                    go_wp2
                    refine bodyPost_ret (v := .tuple #[.agg #[.int .i64 1, .slice (some ⟨wy.heap.size, 0, none⟩) 0 0], _]) (by simp [results, Tryd.results62, go_sem, r0, r1]) rfl ⟨1, [], _, _, lq, rfl, by omega, by omega, by simp, by omega, hq1.out, hq2.out, hq3.out⟩
                  · have q60 : (y60 == 0) = false := by simpa using hz
                    clear hz
                    obtain ⟨e0, e1⟩ := hDy.box.c2
                    have lbg := hDy.box.lt
                    have f0 := hDy.res.frozen 0
                    have f1 := hDy.res.frozen 1
                    have lb2 := hDy.res.lt
                    obtain ⟨r0, r1⟩ := hDy.res.c2
                    have hq1 := Lib.hid hDy.fin
                    have hq2 := Lib.hid (hDy.ownU hUy (.int .i64 ge) (.slice A gp.length c))
                    clear hDy hUy
                    go_wp2
                    refine bodyPost_ret (v := .tuple #[.agg #[.int .i64 ge, .slice A gp.length c], _]) (by simp [results, Tryd.results62, go_sem, r0, r1]) rfl ⟨ge, gp, _, _, (l.set P (⟨l[P].event, l[P].number, pk⟩ : Firing)), rfl, by omega, by omega, by omega, by first | omega | (simp; omega), hq1.out.1, hq2.out, hq1.out.2⟩
                · have y3 : (x == 3) = false := by simpa using x3
                  clear x0 x1 x2 x3
                  have hlx : l.length ≤ 15 := hl15
                  go_wp2_with fail
                  refine (spec_l01Next g 60 _ hD.src (by omega)).mono ?_
                  rintro e wy ⟨y60, rfl, hy60, hN⟩
                  have hUy := own_draw hU (by decide) hD.src hN
                  have hDy := hD.draw hN
                  clear hy60 hN hD hU
                  by_cases hz : y60 = 0
                  · have q60 : (y60 == 0) = true := by simp [hz]
                    clear hz hUy
                    have hZ : Below wy.heap.size wy ((wy.alloc (.cells #[] 80)).alloc (.cells #[.int .i64 50, .int .i64 51, .int .i64 500, .int .i64 501] 2)) := ((Below.refl _ _).alloc (Nat.le_refl _) _).alloc (by simp) _
                    have hDz := hDy.below hZ
                    have hEz : Own Place.cells 4 80 ((wy.alloc (.cells #[] 80)).alloc (.cells #[.int .i64 50, .int .i64 51, .int .i64 500, .int .i64 501] 2)) w.heap.size (.slice (some ⟨wy.heap.size, 0, none⟩) 0 0) ([] : List Place) := (own_new0 Place.cells 4 wy 80 w.heap.size hDy.grown.size).alloc _
                    clear hZ hDy
                    go_wp2_with fail
                    refine (spec_l01Pick g (wy.heap.size + 1) [50, 51, 500, 501] _ hDz.src (Blk.newAt _ _ (by simp)) (by simp) (by simp)).mono ?_
                    rintro e wp ⟨pk, hpk, rfl, hN⟩
                    have hEp := own_draw hEz (by decide) hDz.src hN
                    have hDp := hDz.draw hN
                    have hpb : 0 ≤ pk ∧ pk ≤ 501 := by simp at hpk; omega
                    clear hpk hN hEz hDz
                    go_wp2_with fail
                    refine (spec_l14Long pk _ (by omega)).mono ?_
                    rintro e wq ⟨uq, lq, rfl, hlq, hOq, hB⟩
                    have hDq := hDp.below hB
                    have hEq := hEp.now hB
                    have hOw := hOq.rebase hDp.grown.size
                    obtain ⟨UQ, uqc, rfl⟩ := hOw.shape
                    clear hOq hEp hDp hB
                    have f0 := hDq.res.frozen 0
                    have f1 := hDq.res.frozen 1
                    have lb2 := hDq.res.lt
                    obtain ⟨r0, r1⟩ := hDq.res.c2
                    have hq1 := Lib.hid (own_far (own_far hEq (p := ⟨b2, 0, none⟩) (hEq.ne_blk hDq.res (by decide)) (.int .i64 1)) (p := ⟨b2, 1, none⟩) (hEq.ne_blk hDq.res (by decide)) (.slice (some ⟨wy.heap.size, 0, none⟩) 0 0))
                    have hq2 := Lib.hid (hDq.ownU hOw (.int .i64 1) (.slice (some ⟨wy.heap.size, 0, none⟩) 0 0))
                    have hq3 := Lib.hid (hDq.finD (.int .i64 1) (.slice (some ⟨wy.heap.size, 0, none⟩) 0 0))
                    clear hEq hOw hDq
                    go_wp2
                    refine bodyPost_ret (v := .tuple #[.agg #[.int .i64 1, .slice (some ⟨wy.heap.size, 0, none⟩) 0 0], _]) (by simp [results, Tryd.results62, go_sem, r0, r1]) rfl ⟨1, [], _, _, lq, rfl, by omega, by omega, by simp, by omega, hq1.out, hq2.out, hq3.out⟩
                  · have q60 : (y60 == 0) = false := by simpa using hz
                    clear hz
                    obtain ⟨e0, e1⟩ := hDy.box.c2
                    have lbg := hDy.box.lt
                    have f0 := hDy.res.frozen 0
                    have f1 := hDy.res.frozen 1
                    have lb2 := hDy.res.lt
                    obtain ⟨r0, r1⟩ := hDy.res.c2
                    have hq1 := Lib.hid hDy.fin
                    have hq2 := Lib.hid (hDy.ownU hUy (.int .i64 ge) (.slice A gp.length c))
                    clear hDy hUy
                    go_wp2
                    refine bodyPost_ret (v := .tuple #[.agg #[.int .i64 ge, .slice A gp.length c], _]) (by simp [results, Tryd.results62, go_sem, r0, r1]) rfl ⟨ge, gp, _, _, l, rfl, by omega, by omega, by omega, by first | omega | (simp; omega), hq1.out.1, hq2.out, hq1.out.2⟩
        · obtain rfl : l = [] := List.eq_nil_of_length_eq_zero (by omega)
          clear hl0
          have hlx : ([] : List Firing).length ≤ 15 := hl15
          go_wp2_with fail
          refine (spec_l01Next g 60 _ hD.src (by omega)).mono ?_
          rintro e wy ⟨y60, rfl, hy60, hN⟩
          have hUy := own_draw hU (by decide) hD.src hN
          have hDy := hD.draw hN
          clear hy60 hN hD hU
          by_cases hz : y60 = 0
          · have q60 : (y60 == 0) = true := by simp [hz]
            clear hz hUy
            have hZ : Below wy.heap.size wy ((wy.alloc (.cells #[] 80)).alloc (.cells #[.int .i64 50, .int .i64 51, .int .i64 500, .int .i64 501] 2)) := ((Below.refl _ _).alloc (Nat.le_refl _) _).alloc (by simp) _
            have hDz := hDy.below hZ
            have hEz : Own Place.cells 4 80 ((wy.alloc (.cells #[] 80)).alloc (.cells #[.int .i64 50, .int .i64 51, .int .i64 500, .int .i64 501] 2)) w.heap.size (.slice (some ⟨wy.heap.size, 0, none⟩) 0 0) ([] : List Place) := (own_new0 Place.cells 4 wy 80 w.heap.size hDy.grown.size).alloc _
            clear hZ hDy
            go_wp2_with fail
            refine (spec_l01Pick g (wy.heap.size + 1) [50, 51, 500, 501] _ hDz.src (Blk.newAt _ _ (by simp)) (by simp) (by simp)).mono ?_
            rintro e wp ⟨pk, hpk, rfl, hN⟩
            have hEp := own_draw hEz (by decide) hDz.src hN
            have hDp := hDz.draw hN
            have hpb : 0 ≤ pk ∧ pk ≤ 501 := by simp at hpk; omega
            clear hpk hN hEz hDz
            go_wp2_with fail
            refine (spec_l14Long pk _ (by omega)).mono ?_
            rintro e wq ⟨uq, lq, rfl, hlq, hOq, hB⟩
            have hDq := hDp.below hB
            have hEq := hEp.now hB
            have hOw := hOq.rebase hDp.grown.size
            obtain ⟨UQ, uqc, rfl⟩ := hOw.shape
            clear hOq hEp hDp hB
            have f0 := hDq.res.frozen 0
            have f1 := hDq.res.frozen 1
            have lb2 := hDq.res.lt
            obtain ⟨r0, r1⟩ := hDq.res.c2
            have hq1 := Lib.hid (own_far (own_far hEq (p := ⟨b2, 0, none⟩) (hEq.ne_blk hDq.res (by decide)) (.int .i64 1)) (p := ⟨b2, 1, none⟩) (hEq.ne_blk hDq.res (by decide)) (.slice (some ⟨wy.heap.size, 0, none⟩) 0 0))
            have hq2 := Lib.hid (hDq.ownU hOw (.int .i64 1) (.slice (some ⟨wy.heap.size, 0, none⟩) 0 0))
            have hq3 := Lib.hid (hDq.finD (.int .i64 1) (.slice (some ⟨wy.heap.size, 0, none⟩) 0 0))
            clear hEq hOw hDq
            go_wp2
            refine bodyPost_ret (v := .tuple #[.agg #[.int .i64 1, .slice (some ⟨wy.heap.size, 0, none⟩) 0 0], _]) (by simp [results, Tryd.results62, go_sem, r0, r1]) rfl ⟨1, [], _, _, lq, rfl, by omega, by omega, by simp, by omega, hq1.out, hq2.out, hq3.out⟩
          · have q60 : (y60 == 0) = false := by simpa using hz
            clear hz
            obtain ⟨e0, e1⟩ := hDy.box.c2
            have lbg := hDy.box.lt
            have f0 := hDy.res.frozen 0
            have f1 := hDy.res.frozen 1
            have lb2 := hDy.res.lt
            obtain ⟨r0, r1⟩ := hDy.res.c2
            have hq1 := Lib.hid hDy.fin
            have hq2 := Lib.hid (hDy.ownU hUy (.int .i64 ge) (.slice A gp.length c))
            clear hDy hUy
            go_wp2
            refine bodyPost_ret (v := .tuple #[.agg #[.int .i64 ge, .slice A gp.length c], _]) (by simp [results, Tryd.results62, go_sem, r0, r1]) rfl ⟨ge, gp, _, _, ([] : List Firing), rfl, by omega, by omega, by omega, by first | omega | (simp; omega), hq1.out.1, hq2.out, hq1.out.2⟩
end Go.Proofs.YtlppfcamlggcnaaDoor
