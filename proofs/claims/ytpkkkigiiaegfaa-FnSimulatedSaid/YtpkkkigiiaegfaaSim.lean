/-
  SimulateGraph, the reference's and the program's.
-/
import Derived.Test.YtpkkkigiiaegfaaSimP
import Derived.Test.YtpkkkigiiaegfaaRunS
import Derived.Test.YtpkkkigiiaegfaaRunIA
import Derived.Test.YtpkkkigiiaegfaaTimT
namespace Go.Proofs.Ytpkkkigiiaegfaa
open Go.RowKit
set_option linter.unusedVariables false
set_option linter.unusedSimpArgs false

/-- What SimulateGraph gives. -/
def simF (ge : Int) (gp : List Place) (N : Int) : List Firing × Int :=
  if timC ge gp (inB N 0 50) = 0 then (simK gp N.toNat ge.toNat (N.toNat * ge.toNat), 0) else ([], timC ge gp (inB N 0 50))
theorem simF_len (ge : Int) (gp : List Place) (N : Int) : (simF ge gp N).1.length ≤ 1048576 := by
  unfold simF
  split
  · rename_i h
    obtain ⟨hg, hb, o, ho⟩ := timC_zero h
    obtain ⟨h1, h2⟩ := okGraph_ev hg
    have h3 := (inB_iff _ _ _).1 hb
    show (simK gp N.toNat ge.toNat (N.toNat * ge.toNat)).length ≤ _
    rw [simK_len]
    exact Nat.le_trans (Nat.mul_le_mul (show N.toNat ≤ 50 by omega) (show ge.toNat ≤ 10 by omega)) (by decide)
  · simp
theorem info_firing : (Try.prog.info? 94).map (fun i => (i.zero, i.size, i.bytes)) = some (some (.agg #[.int .i64 0, .int .i64 0, .int .i64 0]), 3, 24) := by kernel_rfl
/-- Two rows of unlike elements lie in unlike blocks. -/
theorem own_ne_ownS {α β : Type} {f : α → List Value} {g : β → List Value} {s1 s2 : Nat} {e1 e2 : TypeId} {w : World} {b1 b2 : Nat} {v1 v2 : Value} {l1 : List α} {l2 : List β} (h1 : Own f s1 e1 w b1 v1 l1) (h2 : Own g s2 e2 w b2 v2 l2) (he : e2 ≠ e1) : ∀ q, v1.ownBlock = some q → v2.ownBlock = some q → False := by
  intro q a b
  rcases h2.2 with ⟨rfl, _⟩ | ⟨g, cap, cur, rfl, _, hg, _⟩
  · cases b
  · injection b with b
    subst b
    exact h1.ne_blk (t := e2) (cs := cur) hg (by first | exact he | exact he.symm) a
theorem OwnM.keptF {w w2 : World} {base b1 : Nat} {u o : Value} {M : List (List Int)} {l : List Firing} (h : OwnM w base u M) (hQ : Own Firing.cells 3 94 w b1 o l) (hG : w.grownBy w2 o.ownBlock) : OwnM w2 base u M := by
  obtain ⟨rs, hl, hO, hR, hD⟩ := h
  exact ⟨rs, hl, own_kept hO hG (own_ne_ownS hO hQ (by decide)), fun i h1 h2 => own_kept (hR i h1 h2) hG (own_ne_ownS (hR i h1 h2) hQ (by decide)), hD⟩
def slLen : Value → Nat
  | .slice _ n _ => n
  | _ => 0
set_option maxHeartbeats 8000000 in
set_option maxRecDepth 100000 in
theorem spec_SimulateGraph (v : Value) (ge : Int) (gp : List Place) (N : Int) (w : World) (h0 : Lst Place.cells 4 w w.heap.size v gp) :
    Calls Try.prog 75 #[.agg #[.int .i64 ge, v], .int .i64 N] w (RetOwnI Firing.cells 3 94 w (simF ge gp N).1 (simF ge gp N).2) := by
  obtain ⟨A, c, rfl⟩ := h0.shape
  go_enter Try.func75, Try.ntmps75
  go_wp2_with fail
  have hW : Below w.heap.size w (w.alloc (.cells #[.int .i64 ge, .slice A gp.length c] 32)) := (Below.refl _ _).alloc (Nat.le_refl _) _
  have hb0 : Blk (w.alloc (.cells #[.int .i64 ge, .slice A gp.length c] 32)) w.heap.size 32 #[.int .i64 ge, .slice A gp.length c] := Blk.new _ _ _
  replace h0 := h0.now hW
  generalize w.alloc (.cells #[.int .i64 ge, .slice A gp.length c] 32) = W at *
  have hBd : Below W.heap.size W W.drew := Below.drew (Below.refl _ W)
  obtain ⟨k0, k1⟩ := hb0.c2
  have z0 : W.drew.cell? ⟨w.heap.size, 0, none⟩ = some (.int .i64 ge) := k0
  have z1 : W.drew.cell? ⟨w.heap.size, 1, none⟩ = some (.slice A gp.length c) := k1
  refine wp_region_held_drew (S := fun w' => w'.cell? ⟨w.heap.size, 0, none⟩ = some (.int .i64 ge) ∧ w'.cell? ⟨w.heap.size, 1, none⟩ = some (.slice A gp.length c)) (by kernel_rfl) ⟨z0, z1⟩ (fun hH => ?_)
  refine wpAnyH_take (i := 0) (oi := { dst := _, op := _, type := _, pos := _, after := _, guard := _ }) (v := ?_) rfl (by kernel_rfl) (by kernel_rfl) (by kernel_rfl) (fun _ _ _ h => h) (Or.inl ⟨by rfl, ?_⟩) hH ?_
  rotate_left
  · intro w9 hSw
    try dsimp only at hSw
    obtain ⟨s0, s1⟩ := hSw
    go_simp
    try with_reducible rfl
  try simp only [Act.put, List.setIfInBounds_toArray, List.set_cons_zero, List.set_cons_succ]
  refine wpAnyH_take (i := 1) (oi := { dst := _, op := _, type := _, pos := _, after := _, guard := _ }) (v := ?_) rfl (by kernel_rfl) (by kernel_rfl) (by kernel_rfl) (fun _ _ _ h => h) (Or.inl ⟨by rfl, ?_⟩) hH ?_
  rotate_left
  · intro w9 hSw
    try dsimp only at hSw
    obtain ⟨s0, s1⟩ := hSw
    go_simp
    try with_reducible rfl
  try simp only [Act.put, List.setIfInBounds_toArray, List.set_cons_zero, List.set_cons_succ]
  refine wpAnyH_ready (rs := [2]) (by kernel_rfl) (by simp) ?_
  refine AllReadyH.cons rfl (fun K hK => ?_) AllReadyH.nil
  go_simp
  go_at_call 113
  refine (spec_l01In _ _ _ _).mono ?_
  rintro e6 w6 ⟨rfl, rfl⟩
  refine hK.out _ _ ⟨z0, z1⟩ (fun hH => ?_)
  clear hK K
  try simp only [Act.put, List.setIfInBounds_toArray, List.set_cons_zero, List.set_cons_succ]
  refine wpAnyH_ready (rs := [3]) (by kernel_rfl) (by simp) ?_
  refine AllReadyH.cons rfl (fun K hK => ?_) AllReadyH.nil
  go_simp
  go_at_call 112
  refine (spec_l13Code _ _ _ _ W.drew (h0.now hBd)).mono ?_
  rintro e7 w1 ⟨rfl, hB⟩
  have z0a := cell_keep (w := W.drew) z0 hB
  have z1a := cell_keep (w := W.drew) z1 hB
  refine hK.out _ _ ⟨z0a, z1a⟩ (fun hH => ?_)
  clear hK K
  try simp only [Act.put, List.setIfInBounds_toArray, List.set_cons_zero, List.set_cons_succ]
  refine wpAnyH_take (i := 4) (oi := { dst := _, op := _, type := _, pos := _, after := _, guard := _ }) (v := ?_) rfl (by kernel_rfl) (by kernel_rfl) (by kernel_rfl) (fun _ _ _ h => h) (Or.inl ⟨by rfl, ?_⟩) hH ?_
  rotate_left
  · intro w9 hSw
    try dsimp only at hSw
    obtain ⟨s0, s1⟩ := hSw
    go_simp
    try with_reducible rfl
  try simp only [Act.put, List.setIfInBounds_toArray, List.set_cons_zero, List.set_cons_succ]
  refine wpAnyH_done (by kernel_rfl) ?_ _
  replace h0 := (h0.now hBd).now hB
  replace hb0 := (hb0.now hBd).now hB
  replace hW := hW.trans ((hBd.trans hB).mono hW.size)
  clear hB k0 k1 z0 z1 z0a z1a hH hBd
  obtain ⟨k0, k1⟩ := hb0.c2
  have l0 := hb0.lt
  cases hc : timC ge gp (inB N 0 50) == 0
  · have hc' : (timC ge gp (inB N 0 50) != 0) = true := by simp only [bne, hc]; rfl
    have hE : Hid (simF ge gp N = ([], timC ge gp (inB N 0 50))) := by show _ = _; unfold simF; rw [if_neg (by simpa using hc)]
    clear hc
    generalize timC ge gp (inB N 0 50) = code at *
    go_wp2
    go_ret2
    exact RetOwnI.of hE.out ⟨_, rfl, Own.nil, hW⟩
  have hc0 : timC ge gp (inB N 0 50) = 0 := by simpa using hc
  obtain ⟨hg, hb, o, ho⟩ := timC_zero hc0
  obtain ⟨hge1, hge2⟩ := okGraph_ev hg
  obtain ⟨n, rfl⟩ := Int.eq_ofNat_of_zero_le (show 0 ≤ ge by omega)
  have hN := (inB_iff _ _ _).1 hb
  obtain ⟨M, rfl⟩ := Int.eq_ofNat_of_zero_le hN.1
  rw [Int.toNat_natCast] at ho
  obtain ⟨P, hP⟩ : ∃ P : Nat, M * n = P := ⟨_, rfl⟩
  have hE : Hid (simF n gp M = (simK gp M n P, 0)) := by show _ = _; unfold simF; rw [if_pos hc0, Int.toNat_natCast, Int.toNat_natCast, hP]
  have hg' := Lib.hid hg
  have hOk := Lib.hid (sim_ok (N := M) hg ho)
  have hBest := Lib.hid (sim_best (N := M) hg ho)
  rw [hP] at hOk hBest
  have hP5 : P ≤ 500 := by rw [← hP]; exact Nat.le_trans (Nat.mul_le_mul (show M ≤ 50 by omega) (show n ≤ 10 by omega)) (by decide)
  have hPi : (M : Int) * (n : Int) = (P : Int) := by rw [← hP, Int.natCast_mul]
  have hPw : IntKind.i64.wrap ((M : Int) * (n : Int)) = (P : Int) := (IntWalk.i64_in _ (by omega)).trans hPi
  rw [hc0]
  clear hc hc0 hb hg ho hP hPi
  go_wp2
  clear k0 k1 l0
  have hs1 := hW.size
  go_loopw [7, 8, 9, 10, 11, 12] (fun o _ _ _ _ _ wr => ∃ k : Nat, k ≤ P ∧ Own Firing.cells 3 94 wr w1.heap.size o (simK gp M n k) ∧ Below w1.heap.size w1 wr) (fun o _ _ _ _ _ _ => P - slLen o)
  case atStart => exact ⟨0, Nat.zero_le _, own_new0 _ _ _ _ _ (Nat.le_refl _), (Below.refl _ _).alloc (Nat.le_refl _) _⟩
  case round =>
    obtain ⟨k, hk, hO, hB⟩ := hrel
    have hs := hB.size
    obtain ⟨k0, k1⟩ := (hb0.now hB).c2
    have l0 := (hb0.now hB).lt
    obtain ⟨OA, oc, rfl⟩ := own_shape_n hO (simK_len gp M n k)
    by_cases hlt : k < P
    · obtain ⟨b, t, hb, hbe, hbr, hbc⟩ := hBest.out k hlt
      obtain ⟨hEo, hcM⟩ := hOk.out k hk
      have hR := Lib.hid (hEo.run (by omega))
      have hnx := Lib.hid (simK_next gp M n k hbe)
      have hln := Lib.hid (simK_len gp M n k)
      generalize simK gp M n k = L at *
      have hbeH := Lib.hid hbe
      have hbrH := Lib.hid hbr
      have hbdH := Lib.hid (fun e => readyS_bd hg'.out (timesIn L) ((1000 * k : Nat) : Int) (by omega) (fun i j => hEo.times i j) e gp.length (Nat.le_refl _))
      have hsc := Lib.hid (bestK_succ gp (timesIn L) M)
      have hcMH := Lib.hid hcM
      clear hbe hbr hEo hcM
      obtain ⟨wo, hwo⟩ : ∃ x, x = wr := ⟨_, rfl⟩
      subst hwo
      go_wp2
      clear k0 k1 l0
      go_loopw [8, 9, 10, 11, 12] (fun bs wn i _ _ wi => ∃ j : Nat, j ≤ n ∧ i = .int .i64 j ∧ bs = .int .i64 (bestK gp (timesIn L) M j).1 ∧ wn = .int .i64 (bestK gp (timesIn L) M j).2 ∧ Below wo.heap.size wo wi) (fun _ _ i _ _ _ => n - (intOf i).toNat)
      case atStart => exact ⟨0, Nat.zero_le _, rfl, rfl, rfl, Below.refl _ _⟩
      case round =>
        obtain ⟨j, hj, rfl, rfl, rfl, hBi⟩ := hrel
        have hsi := hBi.size
        obtain ⟨k0, k1⟩ := ((hb0.now hB).now hBi).c2
        have l0 := ((hb0.now hB).now hBi).lt
        by_cases hlj : j < n
        · have hst := hsc.out j
          have hOi := hO.now hBi
          generalize bestK gp (timesIn L) M j = B at *
          obtain ⟨bs, wn⟩ := B
          dsimp only
          go_wp2_with fail
          refine (l14Ready _ n gp _ L j _ ((h0.now hB).now hBi) hOi.lst hg'.out (by rw [hln.out]; omega) hR.out).mono ?_
          rintro e5 w5 ⟨rfl, hB5⟩
          have hBt := hBi.trans (hB5.mono hsi)
          have hO5 := hOi.now hB5
          cases hr : readyS gp (timesIn L) (j : Int) with
          | none =>
            have hst' : Hid (bestK gp (timesIn L) M (j + 1) = (bs, wn)) := hst.trans (by unfold stepB; rw [hr])
            clear hst hr
            simp only [Option.getD_none, Option.isSome_none]
            go_wp2
            go_roundw
            case rel => exact ⟨j + 1, hlj, by go_num, by rw [hst'.out], by rw [hst'.out], hBt⟩
            case measure => simp [intOf]; omega
          | some t' =>
            have hst2 : bestK gp (timesIn L) M (j + 1) = if (timesIn L (j : Int)).length < M ∧ (bs < 0 ∨ t' < wn) then ((j : Int), t') else (bs, wn) := hst.trans (by unfold stepB; rw [hr])
            clear hst hr
            simp only [Option.getD_some, Option.isSome_some]
            by_cases hc : (timesIn L (j : Int)).length < M
            · have q1 : decide (((timesIn L (j : Int)).length : Int) < (M : Int)) = true := decide_eq_true (by omega)
              by_cases hneg : bs < 0
              · have q2 : decide (bs < 0) = true := decide_eq_true hneg
                rw [if_pos ⟨hc, .inl hneg⟩] at hst2
                have hst' := Lib.hid hst2
                clear hst2 hneg
                go_wp2_with fail
                refine (l14Count _ L j _ hO5.lst (by rw [hln.out]; omega)).mono ?_
                rintro e6 w6 ⟨rfl, rfl⟩
                go_wp2
                go_roundw
                case rel => exact ⟨j + 1, hlj, by go_num, by rw [hst'.out], by rw [hst'.out], hBt⟩
                case measure => simp [intOf]; omega
              · have q2 : decide (bs < 0) = false := decide_eq_false hneg
                by_cases hlo : t' < wn
                · have q3 : decide (t' < wn) = true := decide_eq_true hlo
                  rw [if_pos ⟨hc, .inr hlo⟩] at hst2
                  have hst' := Lib.hid hst2
                  clear hst2 hneg hlo
                  go_wp2_with fail
                  refine (l14Count _ L j _ hO5.lst (by rw [hln.out]; omega)).mono ?_
                  rintro e6 w6 ⟨rfl, rfl⟩
                  go_wp2
                  go_roundw
                  case rel => exact ⟨j + 1, hlj, by go_num, by rw [hst'.out], by rw [hst'.out], hBt⟩
                  case measure => simp [intOf]; omega
                · have q3 : decide (t' < wn) = false := decide_eq_false hlo
                  rw [if_neg (by rintro ⟨_, h | h⟩; exact hneg h; exact hlo h)] at hst2
                  have hst' := Lib.hid hst2
                  clear hst2 hneg hlo
                  go_wp2_with fail
                  refine (l14Count _ L j _ hO5.lst (by rw [hln.out]; omega)).mono ?_
                  rintro e6 w6 ⟨rfl, rfl⟩
                  go_wp2
                  go_roundw
                  case rel => exact ⟨j + 1, hlj, by go_num, by rw [hst'.out], by rw [hst'.out], hBt⟩
                  case measure => simp [intOf]; omega
            · have q1 : decide (((timesIn L (j : Int)).length : Int) < (M : Int)) = false := decide_eq_false (by omega)
              rw [if_neg (fun h => hc h.1)] at hst2
              have hst' := Lib.hid hst2
              clear hst2
              go_wp2_with fail
              refine (l14Count _ L j _ hO5.lst (by rw [hln.out]; omega)).mono ?_
              rintro e6 w6 ⟨rfl, rfl⟩
              go_wp2
              go_roundw
              case rel => exact ⟨j + 1, hlj, by go_num, by rw [hst'.out], by rw [hst'.out], hBt⟩
              case measure => simp [intOf]; omega
        · obtain rfl : j = n := by omega
          rw [hbeH.out]
          have hO5 := hO.now hBi
          have hst := Nat.le_trans hs hsi
          have hlen : L.length + [(⟨(b : Int), ((timesIn L (b : Int)).length : Int) + 1, t⟩ : Firing)].length ≤ 1099511627776 := by rw [hln.out]; simp; omega
          have wr1 : IntKind.i64.wrap (((timesIn L (b : Int)).length : Int) + 1) = ((timesIn L (b : Int)).length : Int) + 1 := IntWalk.i64_in _ (by omega)
          dsimp only
          clear hbeH hbrH hbdH
          go_wp2_with fail
          refine (l14Count _ L b _ hO5.lst (by rw [hln.out]; omega)).mono ?_
          rintro e6 w6 ⟨rfl, rfl⟩
          have hBa := (hB.trans (hBi.mono hs)).trans (((Below.refl wr.heap.size wr).alloc (Nat.le_refl _) (.cells #[.int .i64 b, .int .i64 (((timesIn L (b : Int)).length : Int) + 1), .int .i64 t] 94)).mono hst)
          go_wp2_with (at_builtin; refine wpList_append_lst rfl _ _ 58 rfl Firing.cells 3 Firing.cells_one (by omega) w1.heap.size 94 _ 24 Try.underlying58 info_firing rfl _ _ rfl (hO5.alloc _) _ _ _ _ [⟨(b : Int), ((timesIn L (b : Int)).length : Int) + 1, t⟩] rfl (lst_new1 _ _ Firing.cells_len _ _ _ _ rfl _ (by simp)) hlen (by omega) (Nat.le_trans hst (by simp <;> omega)) ?_; intro v' w7 hO1 hG1 hD1)
          rw [← hnx.out] at hO1
          have hBw := below_app hBa (Nat.le_trans hst (by simp <;> omega)) hG1 (hO5.alloc _) (Nat.le_refl _)
          obtain ⟨V1, cv1, rfl⟩ := own_shape_n hO1 (simK_len gp M _ (k + 1))
          go_roundw
          case rel => exact ⟨k + 1, hlt, hO1, hBw⟩
          case measure => simp [slLen]; omega
    · obtain rfl : k = P := by omega
      go_wp2
      go_ret2
      exact RetOwnI.of hE.out ⟨_, rfl, hO.rebase hs1, hW.trans (hB.mono hs1)⟩
set_option maxHeartbeats 8000000 in
set_option maxRecDepth 100000 in
theorem impl_simulate (v : Value) (n : Nat) (gp : List Place) (M P : Nat) (w : World) (h0 : Lst Place.cells 4 w w.heap.size v gp) (hok : Hid (okGraph n gp = true)) (hPw : IntKind.i64.wrap ((M : Int) * (n : Int)) = (P : Int)) (hP5 : P ≤ 500)
    (hOk : Hid (∀ k, k ≤ P → EarlOk n (1000 * k) (simK gp M n k) ∧ ∀ e, (timesIn (simK gp M n k) e).length ≤ M))
    (hBest : Hid (∀ k, k < P → ∃ (b : Nat) (t : Int), b < n ∧ bestK gp (timesIn (simK gp M n k)) M n = ((b : Int), t) ∧ readyS gp (timesIn (simK gp M n k)) (b : Int) = some t ∧ (timesIn (simK gp M n k) (b : Int)).length < M)) :
    Calls Try.prog 166 #[.agg #[.int .i64 n, v], .int .i64 M] w (RetOwn Firing.cells 3 94 w (simK gp M n P)) := by
  obtain ⟨A, c, rfl⟩ := h0.shape
  obtain ⟨hge1, hge2⟩ := okGraph_ev hok.out
  have hmk := run_make_lst (P := Try.prog) Ref.cells 1 Ref.cells_len (by omega) ⟨none, 0, 0⟩ 47 37 _ 24 Try.underlying47 info_ref rfl .i64 .i64 n (by omega) (by omega)
  have hm1 := fun w => (hmk w).1
  have hm2 := Lib.hid fun (w : World) => (hmk w).2 w.heap.size (Nat.le_refl _)
  clear hmk
  go_enter Try.func166, Try.ntmps166
  go_wp2
  have hW : Below w.heap.size w (w.alloc (.cells #[.int .i64 n, .slice A gp.length c] 32)) := (Below.refl _ _).alloc (Nat.le_refl _) _
  have hb0 : Blk (w.alloc (.cells #[.int .i64 n, .slice A gp.length c] 32)) w.heap.size 32 #[.int .i64 n, .slice A gp.length c] := Blk.new _ _ _
  have hM0 := OwnM.made (hm2.out (w.alloc (.cells #[.int .i64 n, .slice A gp.length c] 32)))
  have hsW : Hid ((w.alloc (.cells #[.int .i64 n, .slice A gp.length c] 32)).heap.size = w.heap.size + 1) := by show _ = _; simp
  rw [hsW.out] at hM0
  have hN : Below (w.heap.size + 1) (w.alloc (.cells #[.int .i64 n, .slice A gp.length c] 32)) ((w.alloc (.cells #[.int .i64 n, .slice A gp.length c] 32)).alloc (.cells (madeCells (Ref.cells ⟨none, 0, 0⟩).toArray (n * 1)) 37)) := (Below.refl _ _).alloc (by rw [hsW.out]; exact Nat.le_refl _) _
  replace h0 := h0.now hW
  simp only [Nat.mul_one] at hM0 hN
  clear hm1 hm2
  generalize w.alloc (.cells #[.int .i64 n, .slice A gp.length c] 32) = W at *
  go_loopw [6, 7, 8, 9, 10, 11, 24] (fun o _ _ _ _ _ _ wr => ∃ k : Nat, k ≤ P ∧ Own Firing.cells 3 94 wr (w.heap.size + 1) o (simK gp M n k) ∧ OwnM wr (w.heap.size + 1) (.slice (some ⟨w.heap.size + 1, 0, none⟩) n n) (tabR n (simK gp M n k)) ∧ Below (w.heap.size + 1) W wr) (fun o _ _ _ _ _ _ _ => P - slLen o)
  case atStart => exact ⟨0, Nat.zero_le _, Own.nil, by show OwnM _ _ _ (tabR n []); rw [tabR_nil]; exact hM0, hN⟩
  case round =>
    clear hM0 hN
    obtain ⟨k, hk, hO, hM, hB0⟩ := hrel
    have hB : Below W.heap.size W wr := by rw [hsW.out]; exact hB0
    have hs := hB.size
    obtain ⟨k0, k1⟩ := (hb0.now hB).c2
    have l0 := (hb0.now hB).lt
    obtain ⟨OA, oc, rfl⟩ := own_shape_n hO (simK_len gp M n k)
    by_cases hlt : k < P
    · obtain ⟨b, t, hb, hbe, hbr, hbc⟩ := hBest.out k hlt
      obtain ⟨hEo, hcM⟩ := hOk.out k hk
      have hR := Lib.hid (hEo.run (by omega))
      have hnx := Lib.hid (simK_next gp M n k hbe)
      have hln := Lib.hid (simK_len gp M n k)
      generalize simK gp M n k = L at *
      have hbeH := Lib.hid hbe
      have hsc := Lib.hid (bestK_succ gp (timesIn L) M)
      have hcMH := Lib.hid hcM
      have htk := Lib.hid (tabR_ok hR.out (by rw [hln.out]; omega) n)
      clear hbe hbr hEo hcM
      obtain ⟨wo, hwo⟩ : ∃ x, x = wr := ⟨_, rfl⟩
      subst hwo
      go_wp2
      clear k0 k1 l0
      go_loopw [7, 8, 9, 10, 11, 24] (fun bs wn _ _ _ i wi => ∃ j : Nat, j ≤ n ∧ i = .int .i64 j ∧ bs = .int .i64 (bestK gp (timesIn L) M j).1 ∧ wn = .int .i64 (bestK gp (timesIn L) M j).2 ∧ Below wo.heap.size wo wi) (fun _ _ _ _ _ i _ => n - (intOf i).toNat)
      case atStart => exact ⟨0, Nat.zero_le _, rfl, rfl, rfl, Below.refl _ _⟩
      case round =>
        obtain ⟨j, hj, rfl, rfl, rfl, hBi⟩ := hrel
        have hsi := hBi.size
        obtain ⟨k0, k1⟩ := ((hb0.now hB).now hBi).c2
        have l0 := ((hb0.now hB).now hBi).lt
        by_cases hlj : j < n
        · have hst := hsc.out j
          have hcj := hcMH.out (j : Int)
          have hMi := hM.now hBi
          have hjl : j < (tabR n L).length := by rw [tabR_len]; exact hlj
          obtain ⟨g9, c9, r9, hu9, -, hg9, -, hc9, hr9, -, -, -⟩ := hMi.row j hjl
          rw [tabR_len] at hu9
          cases hu9
          rw [tabR_get] at hr9
          obtain ⟨RA, rc, hv9⟩ := hr9.shape
          rw [hv9] at hc9
          have i1 : (0 : Int) ≤ (j : Int) := by omega
          have i2 : (j : Int) < (n : Int) := by omega
          generalize bestK gp (timesIn L) M j = B at *
          obtain ⟨bs, wn⟩ := B
          dsimp only
          clear hr9 hv9
          by_cases hc : (timesIn L (j : Int)).length < M
          · have q1 : (((timesIn L (j : Int)).length : Int) == (M : Int)) = false := by simp; omega
            have q0 : ¬ (timesIn L (j : Int)).length = M := by omega
            go_wp2_with fail
            refine (impl_readyTime (.slice A gp.length c) n gp _ (tabR n L) j _ ((h0.now hB).now hBi) hMi.lst hok.out (by rw [tabR_len]) hjl htk).mono ?_
            rintro e5 w5 ⟨rfl, hB5⟩
            rw [tabR_ready hok.out L (j : Int) i1 i2]
            have hBt := hBi.trans (hB5.mono hsi)
            cases hr : readyS gp (timesIn L) (j : Int) with
            | none =>
              have hst' : Hid (bestK gp (timesIn L) M (j + 1) = (bs, wn)) := hst.trans (by unfold stepB; rw [hr])
              clear hst hr
              simp only [Option.getD_none, Option.isSome_none]
              go_wp2
              go_roundw
              case rel => exact ⟨j + 1, hlj, by go_num, by rw [hst'.out], by rw [hst'.out], hBt⟩
              case measure => simp [intOf]; omega
            | some t' =>
              have hst2 : bestK gp (timesIn L) M (j + 1) = if (timesIn L (j : Int)).length < M ∧ (bs < 0 ∨ t' < wn) then ((j : Int), t') else (bs, wn) := hst.trans (by unfold stepB; rw [hr])
              clear hst hr
              simp only [Option.getD_some, Option.isSome_some]
              by_cases hneg : bs < 0
              · have q2 : decide (bs < 0) = true := decide_eq_true hneg
                rw [if_pos ⟨hc, .inl hneg⟩] at hst2
                have hst' := Lib.hid hst2
                clear hst2 hneg
                go_wp2
                go_roundw
                case rel => exact ⟨j + 1, hlj, by go_num, by rw [hst'.out], by rw [hst'.out], hBt⟩
                case measure => simp [intOf]; omega
              · have q2 : decide (bs < 0) = false := decide_eq_false hneg
                by_cases hlo : t' < wn
                · have q3 : decide (t' < wn) = true := decide_eq_true hlo
                  rw [if_pos ⟨hc, .inr hlo⟩] at hst2
                  have hst' := Lib.hid hst2
                  clear hst2 hneg hlo
                  go_wp2
                  go_roundw
                  case rel => exact ⟨j + 1, hlj, by go_num, by rw [hst'.out], by rw [hst'.out], hBt⟩
                  case measure => simp [intOf]; omega
                · have q3 : decide (t' < wn) = false := decide_eq_false hlo
                  rw [if_neg (by rintro ⟨_, h | h⟩; exact hneg h; exact hlo h)] at hst2
                  have hst' := Lib.hid hst2
                  clear hst2 hneg hlo
                  go_wp2
                  go_roundw
                  case rel => exact ⟨j + 1, hlj, by go_num, by rw [hst'.out], by rw [hst'.out], hBt⟩
                  case measure => simp [intOf]; omega
          · have q0 : (timesIn L (j : Int)).length = M := by omega
            have hst' : Hid (bestK gp (timesIn L) M (j + 1) = (bs, wn)) := hst.trans (by unfold stepB; split; exact if_neg (fun h => hc h.1); rfl)
            clear hst
            rw [q0] at hc9
            go_wp2
            go_roundw
            case rel => exact ⟨j + 1, hlj, by go_num, by rw [hst'.out], by rw [hst'.out], hBi⟩
            case measure => simp [intOf]; omega
        · obtain rfl : n = j := by omega
          rw [hbeH.out]
          dsimp only
          clear hbeH hsc htk
          have hO5 := hO.now hBi
          have hs2 := Nat.le_trans hs hsi
          have hsw := hsW.out
          have hBt := hB.trans (hBi.mono hs)
          obtain ⟨rs, hl, hOr, hRw, hD⟩ := hM.now hBi
          have hen : b < (tabR n L).length := by rw [tabR_len]; exact hb
          have her : b < rs.length := by rw [hl]; exact hen
          obtain ⟨g0, cu, hu, hgb, hgl0, hfz, hc⟩ := hOr.at_ Ref.cells_len b her
          rw [hl, tabR_len] at hu
          cases hu
          have r0 := hc 0 _ (by omega) rfl
          have hr := hRw b her hen
          rw [tabR_get] at hr
          obtain ⟨R, rc, hv⟩ := hr.shape
          have hcc0 := timesIn_len L (b : Int)
          rw [hln.out] at hcc0
          obtain ⟨cc, hcc⟩ : ∃ cc, (timesIn L (b : Int)).length = cc := ⟨_, rfl⟩
          rw [hcc] at hv hcc0
          simp only [Nat.mul_one, Nat.add_zero] at r0
          rw [hv] at r0
          have hZ : Below wr.heap.size wr (wr.alloc (.cells #[.int .i64 t] 2)) := (Below.refl _ _).alloc (Nat.le_refl _) _
          have hOr2 := hOr.now hZ
          have hRw2 : ∀ i (h1 : i < rs.length) (h2 : i < (tabR n L).length), Own intCell 1 2 (wr.alloc (.cells #[.int .i64 t] 2)) (w.heap.size + 1) rs[i].val (tabR n L)[i] := fun i h1 h2 => (hRw i h1 h2).now hZ
          have qO := hRw2 b her hen
          have hne := own_ref_ne hOr2 qO
          rw [tabR_get, hv] at qO
          rw [hv] at hne
          have hMH := Lib.hid (And.intro hl (And.intro hOr2 (And.intro hRw2 hD)))
          clear hl hOr hRw hRw2 hD hr hgb hgl0 hc
          have hRwr := Lib.hid hv
          clear hv
          have hO6 := hO5.now hZ
          have y3 := cell_keep r0 hZ
          have hlen : (timesIn L (b : Int)).length + [t].length ≤ 1099511627776 := by rw [hcc]; simp; omega
          have hbs : w.heap.size + 1 ≤ (wr.alloc (.cells #[.int .i64 t] 2)).heap.size := by rw [← hsW.out]; exact Nat.le_trans hs2 hZ.size
          have hLL : Hid ((timesIn L (b : Int) ++ [t]).length = cc + 1) := by show _ = _; simp [hcc]
          have j1 : (0 : Int) ≤ (b : Int) := by omega
          have j2 : (b : Int) < (n : Int) := by omega
          have hBZ : Below (w.heap.size + 1) W (wr.alloc (.cells #[.int .i64 t] 2)) := by rw [← hsW.out]; exact hBt.trans (hZ.mono hs2)
          have hlen2 : L.length + [(⟨(b : Int), (cc : Int) + 1, t⟩ : Firing)].length ≤ 1099511627776 := by rw [hln.out]; simp; omega
          rw [hcc] at hnx
          go_wp2_with (at_builtin; first
            | (refine wpList_append_lst rfl _ _ 37 rfl intCell 1 intCell_one (by omega) (w.heap.size + 1) 2 _ 8 Try.underlying37 info_i64 rfl (.slice R cc rc) (timesIn L (b : Int)) rfl qO _ _ _ _ [t] rfl (lst_new1 _ _ intCell_len _ _ _ _ rfl _ (by simp)) hlen (by omega) hbs ?_
               intro v' w7 hO1 hG1 hD1
               obtain ⟨V1, cv1, rfl⟩ := own_shape_n hO1 hLL.out
               have u3 := cell_kept y3 hG1 hne
               have fz : w7.frozen? ⟨w.heap.size + 1, b, none⟩ = false := by
                 obtain ⟨g9, c9, hu9, _, _, hf9, _⟩ := (own_kept hMH.out.2.1 hG1 (fun q a b => by injection a with a; subst a; exact hne b)).at_ Ref.cells_len b her
                 injection hu9 with hu9 _ _
                 injection hu9 with hu9
                 injection hu9 with hu9 _ _
                 subst hu9
                 exact hf9 b
               have hO7 := own_kept hO6 hG1 (own_ne_ownS hO6 qO (by decide))
               have hO8 := own_far hO7 (p := ⟨w.heap.size + 1, b, none⟩) (fun h => own_ne_ownS hO6 hOr2 (by decide) _ h rfl) (.slice V1 (cc + 1) cv1)
               have hBn := (below_app hBZ hbs hG1 qO (Nat.le_refl _)).setCell (p := ⟨w.heap.size + 1, b, none⟩) (Nat.le_refl _) (.slice V1 (cc + 1) cv1)
               have hMn := OwnM.app hMH.out.1 hMH.out.2.1 hMH.out.2.2.1 hMH.out.2.2.2 b her ⟨V1, cc + 1, cv1⟩ (timesIn L (b : Int) ++ [t]) hO1 (by rw [hRwr.out]; exact hG1) (by rw [hRwr.out]; exact hD1) rfl
               rw [tabR_set n L b ((cc : Int) + 1) t, ← hnx.out] at hMn
               simp only [Ref.val] at hMn
               have hA8 : Below (w7.setCell ⟨w.heap.size + 1, b, none⟩ (.slice V1 (cc + 1) cv1)).heap.size (w7.setCell ⟨w.heap.size + 1, b, none⟩ (.slice V1 (cc + 1) cv1)) ((w7.setCell ⟨w.heap.size + 1, b, none⟩ (.slice V1 (cc + 1) cv1)).alloc (.cells #[.int .i64 b, .int .i64 ((cc : Int) + 1), .int .i64 t] 94)) := (Below.refl _ _).alloc (Nat.le_refl _) _
               have hS8 : w.heap.size + 1 ≤ (w7.setCell ⟨w.heap.size + 1, b, none⟩ (.slice V1 (cc + 1) cv1)).heap.size := Nat.le_trans (Nat.le_of_eq hsw.symm) hBn.size
               replace hMn := hMn.now hA8
               have hO9 := Own.now hO8 hA8
               replace hBn := hBn.trans (hA8.mono hS8)
               have hb8 := Nat.le_trans hS8 hA8.size
               clear hO7 hO8)
            | (refine wpList_append_lst rfl _ _ 58 rfl Firing.cells 3 Firing.cells_one (by omega) (w.heap.size + 1) 94 _ 24 Try.underlying58 info_firing rfl (.slice OA k oc) L rfl (by assumption) _ _ _ _ [⟨(b : Int), (cc : Int) + 1, t⟩] rfl (lst_new1 _ _ Firing.cells_len _ _ _ _ rfl _ (by first | rfl | simp)) hlen2 (by omega) (by assumption) ?_
               intro v' w9 hOa hGa hDa))
          have hMa := hMn.keptF hO9 hGa
          have hBa := below_app hBn hb8 hGa hO9 (Nat.le_refl _)
          rw [← hnx.out] at hOa
          obtain ⟨Va, cva, rfl⟩ := own_shape_n hOa (simK_len gp M _ (k + 1))
          go_roundw
          case rel => exact ⟨k + 1, hlt, hOa, hMa, hBa⟩
          case measure => simp [slLen]; omega
    · obtain rfl : k = P := by omega
      go_wp2
      go_ret
      exact ⟨_, rfl, hO.rebase (by omega), hW.trans (hB.mono hW.size)⟩
set_option maxHeartbeats 4000000 in
set_option maxRecDepth 100000 in
theorem impl_SimulateGraph (v : Value) (ge : Int) (gp : List Place) (N : Int) (w : World) (h0 : Lst Place.cells 4 w w.heap.size v gp) :
    Calls Try.prog 74 #[.agg #[.int .i64 ge, v], .int .i64 N] w (RetOwnI Firing.cells 3 94 w (simF ge gp N).1 (simF ge gp N).2) := by
  obtain ⟨A, c, rfl⟩ := h0.shape
  go_enter Try.func74, Try.ntmps74
  go_wp2_with fail
  have hW : Below w.heap.size w (w.alloc (.cells #[.int .i64 ge, .slice A gp.length c] 32)) := (Below.refl _ _).alloc (Nat.le_refl _) _; have hb0 : Blk (w.alloc (.cells #[.int .i64 ge, .slice A gp.length c] 32)) w.heap.size 32 #[.int .i64 ge, .slice A gp.length c] := Blk.new _ _ _; replace h0 := h0.now hW; generalize (w.alloc (.cells #[.int .i64 ge, .slice A gp.length c] 32)) = W at *
  refine (impl_checkFirings _ _ _ _ _ h0).mono ?_
  rintro e w1 ⟨rfl, hB⟩
  replace hW := hW.trans (hB.mono hW.size); replace h0 := h0.now hB; replace hb0 := hb0.now hB
  clear hB
  obtain ⟨k0, k1⟩ := hb0.c2
  have l0 := hb0.lt
  cases hc : timC ge gp (inB N 0 50) == 0
  · have hc' : (timC ge gp (inB N 0 50) != 0) = true := by simp only [bne, hc]; rfl
    have hE : Hid (simF ge gp N = ([], timC ge gp (inB N 0 50))) := by show _ = _; unfold simF; rw [if_neg (by simpa using hc)]
    clear hc
    generalize timC ge gp (inB N 0 50) = code at *
    go_wp2
    go_ret2
    exact RetOwnI.of hE.out ⟨_, rfl, Own.nil, hW⟩
  have hc0 : timC ge gp (inB N 0 50) = 0 := by simpa using hc
  obtain ⟨hg, hb, o, ho⟩ := timC_zero hc0
  obtain ⟨hge1, hge2⟩ := okGraph_ev hg
  obtain ⟨n, rfl⟩ := Int.eq_ofNat_of_zero_le (show 0 ≤ ge by omega)
  have hN := (inB_iff _ _ _).1 hb
  obtain ⟨M, rfl⟩ := Int.eq_ofNat_of_zero_le hN.1
  rw [Int.toNat_natCast] at ho
  obtain ⟨P, hP⟩ : ∃ P : Nat, M * n = P := ⟨_, rfl⟩
  have hE : Hid (simF n gp M = (simK gp M n P, 0)) := by show _ = _; unfold simF; rw [if_pos hc0, Int.toNat_natCast, Int.toNat_natCast, hP]
  have hg' := Lib.hid hg
  have hOk := Lib.hid (sim_ok (N := M) hg ho)
  have hBest := Lib.hid (sim_best (N := M) hg ho)
  rw [hP] at hOk hBest
  have hP5 : P ≤ 500 := by rw [← hP]; exact Nat.le_trans (Nat.mul_le_mul (show M ≤ 50 by omega) (show n ≤ 10 by omega)) (by decide)
  have hPi : (M : Int) * (n : Int) = (P : Int) := by rw [← hP, Int.natCast_mul]
  have hPw : IntKind.i64.wrap ((M : Int) * (n : Int)) = (P : Int) := (IntWalk.i64_in _ (by omega)).trans hPi
  rw [hc0]
  clear hc hc0 hb hg ho hP hPi
  go_wp2_with fail
  refine (impl_simulate _ n gp M P _ h0 hg' hPw hP5 hOk hBest).mono ?_
  rintro e w2 ⟨x, rfl, hO, hB⟩
  go_wp2
  go_ret2
  exact RetOwnI.of hE.out ⟨_, rfl, hO.rebase hW.size, hW.trans (hB.mono hW.size)⟩
end Go.Proofs.Ytpkkkigiiaegfaa
