/-
  Firing times, the program's.
-/
import Derived.Test.YtbdklhahbeiffaaTimP
import Derived.Test.YtbdklhahbeiffaaOrdI
namespace Go.Proofs.Ytbdklhahbeiffaa
open Go.RowKit
set_option linter.unusedVariables false
set_option linter.unusedSimpArgs false

set_option maxHeartbeats 8000000 in
set_option maxRecDepth 100000 in
theorem impl_firingTimes (v : Value) (n : Nat) (gp : List Place) (o : List Int) (N : Nat) (u : Value) (s : List Int) (w : World) (h0 : Lst Place.cells 4 w w.heap.size v gp) (h1 : Lst intCell 1 w w.heap.size u s)
    (hok : Hid (okGraph n gp = true)) (ho : Hid (orderF n gp = some o)) (hN : N ≤ 50) (hsl : s.length = n) (hb : Hid (∀ x ∈ s, 0 ≤ x ∧ x ≤ ((1000000 : Nat) : Int))) :
    Calls Try.prog 103 #[.agg #[.int .i64 n, v], .int .i64 N, u] w (RetM w (timT gp o s N)) := by
  obtain ⟨A, c, rfl⟩ := h0.shape
  obtain ⟨C, cs, rfl⟩ := h1.shape
  rw [hsl] at h1 ⊢
  obtain ⟨hge1, hge2⟩ := okGraph_ev hok.out
  have hgl := okGraph_len hok.out
  have hOk := orderK_ok n o ho.out
  have hon := hOk.len
  have hrng := Lib.hid hOk.rng
  have hTab := Lib.hid (fun k => TabOk.times hok.out hgl (o := o) (s := s) (by omega) hsl hb.out k)
  have hslH := Lib.hid hsl
  clear hOk
  go_enter Try.func103, Try.ntmps103
  go_wp2_with fail
  have hW : Below w.heap.size w (w.alloc (.cells #[.int .i64 (n:Int), .slice A gp.length c] 32)) := (Below.refl _ _).alloc (Nat.le_refl _) _; have hb0 : Blk (w.alloc (.cells #[.int .i64 (n:Int), .slice A gp.length c] 32)) w.heap.size 32 #[.int .i64 (n:Int), .slice A gp.length c] := Blk.new _ _ _; replace h0 := h0.now hW; replace h1 := h1.now hW; generalize (w.alloc (.cells #[.int .i64 (n:Int), .slice A gp.length c] 32)) = W at *
  have hWs := hW.size
  refine (impl_firingOrder _ n gp W h0 hok).mono ?_
  rintro e X ⟨ov, rfl, hOv, hB⟩
  rw [ho.out] at hOv
  have hz1 : (orderF n gp).isSome = true := by rw [ho.out]; rfl
  rw [hz1]
  simp only [Option.getD_some] at hOv
  obtain ⟨Ov, co, rfl⟩ := own_shape_n hOv hon
  replace h0 := h0.now hB
  replace h1 := h1.now hB
  have hb1 := hb0.now hB
  replace hW := hW.trans (hB.mono hWs)
  replace hOv := hOv.lst
  have hXs := hW.size
  clear hB hb0 hWs hz1
  go_wp2
  go_loopw [9, 10, 12, 14, 21] (fun xv _ _ _ i wr => ∃ (k : Nat) (Y : Option Addr) (cy : Nat), k ≤ N ∧ i = .int .i64 k ∧ xv = .slice Y k cy ∧ OwnM wr X.heap.size (.slice Y k cy) (timT gp o s k) ∧ Below X.heap.size X wr) (fun _ _ _ _ i _ => N - (intOf i).toNat)
  case atStart => exact ⟨0, none, 0, Nat.zero_le _, rfl, rfl, OwnM.nil, Below.refl _ _⟩
  case round =>
    obtain ⟨k, Y, cy, hk, rfl, rfl, hM, hB⟩ := hrel
    have hs := hB.size
    obtain ⟨wo, hwo⟩ : ∃ x, x = wr := ⟨_, rfl⟩
    subst hwo
    by_cases hlt : k < N
    · have hTk := Lib.hid (hTab.out k)
      have hTl := hTk.out.len
      obtain ⟨rs, hl, hO, hR, hD⟩ := hM
      rw [hTl] at hl
      have hrlt : Hid (∀ i (hi : i < rs.length) q, rs[i].val.ownBlock = some q → q < wo.heap.size) := fun i hi q hq => ((hR i hi (by rw [hTl]; omega)).lt q hq).2
      have hR' := Lib.hid hR
      have hD' := Lib.hid hD
      have hl' := Lib.hid hl
      have hTlH := Lib.hid hTl
      clear hR hD hl hTl
      go_wp2_with fail
      refine (slices_Clone_i64 _ _ _ (h1.now hB) (by omega)).mono ?_
      rintro e w5 ⟨r5, rfl, hr5, hB5⟩
      obtain ⟨R, cr, rfl⟩ := own_shape_n hr5 hsl
      have hlen : rs.length + [(⟨R, n, cr⟩ : Ref)].length ≤ 1099511627776 := by rw [hl'.out]; simp; omega
      have hOn := hO.now hB5
      have hs5 := hB5.size
      have hLL : Hid ((rs ++ [(⟨R, n, cr⟩ : Ref)]).length = k + 1) := by show _ = _; simp [hl'.out]
      have hb5 := (hb1.now hB).now hB5
      obtain ⟨k0, k1⟩ := hb5.c2
      have l0 := hb5.lt
      go_wp2_with (at_builtin; refine wpList_append_lst rfl _ _ 57 rfl Ref.cells 1 Ref.cells_one (by omega) X.heap.size 38 _ 24 Try.underlying57 info_ref rfl _ _ rfl (hOn.alloc _) _ _ _ _ [(⟨R, n, cr⟩ : Ref)] rfl (lst_new1 _ _ Ref.cells_len _ _ _ _ rfl _ (by simp)) hlen (by omega) (Nat.le_trans hs (Nat.le_trans hs5 (by simp <;> omega))) ?_; intro v' w6 hO1 hG1 hD1; obtain ⟨V1, cv1, rfl⟩ := own_shape_n hO1 hLL.out)
      have hM0 : OwnM w6 X.heap.size (.slice V1 (k + 1) cv1) (timT gp o s k ++ [s]) := OwnM.push2 (by rw [hTlH.out]; exact hl'.out) (hOn.alloc _) (fun i h1 h2 => ((hR'.out i h1 h2).now hB5).alloc _) hD'.out ⟨R, n, cr⟩ s wo.heap.size (hr5.alloc _) hs hrlt.out _ hG1 hO1
      have hB6 : Below X.heap.size X w6 := below_app ((hB.trans (hB5.mono hs)).alloc (Nat.le_trans hs hs5) _) (Nat.le_trans hs (Nat.le_trans hs5 (by simp))) hG1 (hOn.alloc _) (Nat.le_refl _)
      have hT0 : Hid (TabOk n (k + 1) (1000000 + 300000 * k) (timT gp o s k ++ [s])) := hTk.out.push hslH.out (fun x hx => by have := hb.out x hx; omega)
      have hTn : Hid (roundT gp k o (timT gp o s k ++ [s]) = timT gp o s (k + 1)) := rfl
      clear hG1 hO1 hD1 hOn hr5 hR' hD' hl' hLL hlen hrlt hB5 hO hb5 k0 k1 l0 hTlH
      generalize timT gp o s k ++ [s] = T0 at *
      go_loopw [12, 14, 31] (fun _ _ i wr => ∃ i' : Nat, i' ≤ n ∧ i = .int .i64 i' ∧ OwnM wr X.heap.size (.slice V1 (k + 1) cv1) (roundT gp k (o.take i') T0) ∧ Below X.heap.size X wr) (fun _ _ i _ => n - (intOf i).toNat)
      case atStart => exact ⟨0, Nat.zero_le _, rfl, hM0, hB6⟩
      case round =>
        clear hM0 hB6
        obtain ⟨i', hi, rfl, hM, hB⟩ := hrel
        have hs := hB.size
        obtain ⟨wp, hwp⟩ : ∃ x, x = wr := ⟨_, rfl⟩
        subst hwp
        by_cases hlt2 : i' < n
        · obtain ⟨b4, off4, hC4, _, a0⟩ := ints_at (hOv.now hB) i' (by rw [hon]; exact hlt2)
          cases hC4
          have hev := hrng.out _ (List.getElem_mem (show i' < o.length by rw [hon]; exact hlt2))
          have hRS := Lib.hid (roundT_succ gp k o T0 i' (by rw [hon]; exact hlt2))
          have hTi := Lib.hid (hT0.out.round hok.out hgl k o i' (by rw [hon]; exact hi))
          obtain ⟨ev, hevE⟩ : ∃ ev, o[i']'(by rw [hon]; exact hlt2) = ev := ⟨_, rfl⟩
          rw [hevE] at a0 hev
          have hevH := Lib.hid hevE
          clear hevE
          obtain ⟨e, rfl⟩ := Int.eq_ofNat_of_zero_le hev.1
          have hen : e < n := by omega
          have hb5 := hb1.now hB
          obtain ⟨k0, k1⟩ := hb5.c2
          have l0 := hb5.lt
          go_wp2
          clear k0 k1 l0 a0 hb5
          have hRS2 : Hid (roundT gp k (o.take (i' + 1)) T0 = eventT gp k e (roundT gp k (o.take i') T0)) := by
            show _ = _
            rw [hRS.out, hevH.out]
            rfl
          generalize roundT gp k (o.take i') T0 = T1 at *
          go_loopw [14, 38] (fun _ i wr => ∃ q : Nat, q ≤ gp.length ∧ i = .int .i64 q ∧ OwnM wr X.heap.size (.slice V1 (k + 1) cv1) (eventT (gp.take q) k e T1) ∧ Below X.heap.size X wr) (fun _ i _ => gp.length - (intOf i).toNat)
          case atStart => exact ⟨0, Nat.zero_le _, rfl, hM, hB⟩
          case round =>
            clear hM hB
            obtain ⟨q, hq, rfl, hM, hB⟩ := hrel
            have hsq := hB.size
            by_cases hlt3 : q < gp.length
            · obtain ⟨b, off, hA0, hbb, d0, d1, d2, d3⟩ := places_at (h0.now hB) q hlt3
              cases hA0
              have hp := okGraph_place hok.out (List.getElem_mem hlt3)
              have hES := Lib.hid (eventT_succ gp k e T1 q hlt3)
              have hTq := Lib.hid (hTi.out.event hok.out k e q hq)
              obtain ⟨p, hpe⟩ : ∃ p, gp[q] = p := ⟨_, rfl⟩
              rw [hpe] at d0 d1 d2 d3 hp
              have hpH := Lib.hid hpe
              clear hpe
              obtain ⟨sv, dv, del, tk⟩ := p
              simp only at d0 d1 d2 d3 hp
              obtain ⟨⟨p1, p2⟩, ⟨p3, p4⟩, ⟨p5, p6⟩, p7, p8⟩ := hp
              obtain ⟨sr, rfl⟩ := Int.eq_ofNat_of_zero_le p1
              obtain ⟨t, rfl⟩ := Int.eq_ofNat_of_zero_le p7
              have hsn : sr < n := by omega
              by_cases hd : dv = (e : Int)
              · by_cases ht : t ≤ k
                · have q1 : (dv == (e : Int)) = true := by simp [hd]
                  have q2 : decide ((t : Int) ≤ (k : Int)) = true := by simp; omega
                  subst hd
                  obtain ⟨dd, hdd⟩ : ∃ dd, k - t = dd := ⟨_, rfl⟩
                  generalize hT2 : eventT (gp.take q) k e T1 = T2 at *
                  clear hT2
                  have hTl := hTq.out.len
                  have hkT : k < T2.length := by omega
                  have hdT : dd < T2.length := by omega
                  have hNew := updT_yes k e sr t dd del T2 ht hdd hkT
                  rw [← hpH.out, ← hES.out] at hNew
                  have hNewH := Lib.hid hNew
                  clear hNew
                  go_wp2_with fail
                  have hA1 : Below wr.heap.size wr (wr.alloc (.cells #[.int .i64 sr, .int .i64 e, .int .i64 del, .int .i64 t] 101)) := (Below.refl _ _).alloc (Nat.le_refl _) _
                  have hbx := Blk.newAt wr (t := 101) (cs := #[.int .i64 sr, .int .i64 e, .int .i64 del, .int .i64 t]) _ rfl
                  replace hM := hM.now hA1
                  replace hB := hB.trans (hA1.mono hsq)
                  clear d0 d1 d2 d3 hbb hA1
                  generalize wr.alloc (.cells #[.int .i64 sr, .int .i64 e, .int .i64 del, .int .i64 t] 101) = V at *
                  generalize wr.heap.size = bx at *
                  have hsV := hB.size
                  obtain ⟨g, cu, r1, hu, hgb, hgl2, hfz, hc1, hr1, hne1, hset, -⟩ := hM.row k hkT
                  rw [hTl] at hu
                  cases hu
                  obtain ⟨g2, cu2, r2, hu2, -, -, -, hc2, hr2, -⟩ := hM.row dd hdT
                  rw [hTl] at hu2
                  cases hu2
                  have hlk := hTq.out.lenAt k hkT
                  have hld := hTq.out.lenAt dd hdT
                  obtain ⟨bk, ck, hv1, hbB, hbl0, -⟩ := hr1.at_ intCell_len e (by rw [hlk]; exact hen)
                  obtain ⟨bd, cd, hv2, -⟩ := hr2.at_ intCell_len sr (by rw [hld]; exact hsn)
                  rw [hlk] at hv1
                  rw [hld] at hv2
                  rw [hv1] at hc1 hr1 hset
                  rw [hv2] at hc2 hr2
                  obtain ⟨-, -, hfr, hce1⟩ := own_ints_at hr1 e (by rw [hlk]; exact hen)
                  obtain ⟨-, -, -, hce2⟩ := own_ints_at hr2 sr (by rw [hld]; exact hsn)
                  rw [← getT_eq hkT (by rw [hlk]; exact hen)] at hce1
                  rw [← getT_eq hdT (by rw [hld]; exact hsn)] at hce2
                  have hg1 := hTq.out.get k e
                  have hg2 := hTq.out.get dd sr
                  have hset' := Lib.hid hset
                  have hlkH := Lib.hid hlk
                  clear hset hv1 hv2 hne1 hr2 hld hlk
                  obtain ⟨c0, c1', c2, c3⟩ := hbx.c4
                  have hBd : Below V.heap.size V V.drew := Below.drew (Below.refl _ V)
                  have z0 : V.drew.cell? ⟨bx, 0, none⟩ = some (.int .i64 sr) := c0
                  have z2 : V.drew.cell? ⟨bx, 2, none⟩ = some (.int .i64 del) := c2
                  have z3 : V.drew.cell? ⟨bx, 3, none⟩ = some (.int .i64 t) := c3
                  have z4 : V.drew.cell? ⟨g, k, none⟩ = some (.slice (some ⟨bk, 0, none⟩) n ck) := hc1
                  have z5 : V.drew.cell? ⟨g, dd, none⟩ = some (.slice (some ⟨bd, 0, none⟩) n cd) := hc2
                  have z6 : V.drew.cell? ⟨bk, e, none⟩ = some (.int .i64 (getT T2 k e)) := hce1
                  have z7 : V.drew.cell? ⟨bd, sr, none⟩ = some (.int .i64 (getT T2 dd sr)) := hce2
                  have fr : ∀ j, V.drew.frozen? ⟨bk, j, none⟩ = false := hfr
                  have j1 : (0 : Int) ≤ (e : Int) := by omega
                  have j2 : (e : Int) < (n : Int) := by omega
                  have j3 : (0 : Int) ≤ (sr : Int) := by omega
                  have j4 : (sr : Int) < (n : Int) := by omega
                  have j5 : (0 : Int) ≤ (k : Int) := by omega
                  have j6 : (k : Int) < (k : Int) + 1 := by omega
                  have j7 : (0 : Int) ≤ (dd : Int) := by omega
                  have j8 : (dd : Int) < (k : Int) + 1 := by omega
                  have wk : IntKind.i64.wrap ((k : Int) - (t : Int)) = (dd : Int) := (IntWalk.i64_in _ (by omega)).trans (by omega)
                  generalize getT T2 k e = x1 at *
                  generalize getT T2 dd sr = x2 at *
                  have ws : IntKind.i64.wrap (x2 + del) = x2 + del := IntWalk.i64_in _ (by omega)
                  clear c0 c1' c2 c3 hc1 hc2 hce1 hce2
                  refine wp_region_E (fun w' => w'.cell? ⟨bx, 0, none⟩ = some (.int .i64 (sr : Nat)) ∧ w'.cell? ⟨bx, 2, none⟩ = some (.int .i64 del) ∧ w'.cell? ⟨bx, 3, none⟩ = some (.int .i64 (t : Nat)) ∧ w'.cell? ⟨g, k, none⟩ = some (.slice (some ⟨bk, 0, none⟩) n ck) ∧ w'.cell? ⟨g, dd, none⟩ = some (.slice (some ⟨bd, 0, none⟩) n cd) ∧ w'.cell? ⟨bk, e, none⟩ = some (.int .i64 x1) ∧ w'.cell? ⟨bd, sr, none⟩ = some (.int .i64 x2)) 28 (by kernel_rfl) ?_
                  have hS0 : (fun w' : World => w'.cell? ⟨bx, 0, none⟩ = some (.int .i64 (sr : Nat)) ∧ w'.cell? ⟨bx, 2, none⟩ = some (.int .i64 del) ∧ w'.cell? ⟨bx, 3, none⟩ = some (.int .i64 (t : Nat)) ∧ w'.cell? ⟨g, k, none⟩ = some (.slice (some ⟨bk, 0, none⟩) n ck) ∧ w'.cell? ⟨g, dd, none⟩ = some (.slice (some ⟨bd, 0, none⟩) n cd) ∧ w'.cell? ⟨bk, e, none⟩ = some (.int .i64 x1) ∧ w'.cell? ⟨bd, sr, none⟩ = some (.int .i64 x2)) V.drew := ⟨z0, z2, z3, z4, z5, z6, z7⟩
                  refine wpAnyE_take (i := 0) (v := ?_) rfl (by kernel_rfl) (by kernel_rfl) (by kernel_rfl) (by kernel_rfl) (by kernel_rfl) (fun _ _ _ h => h) hS0 (by rfl) ?_ ?_
                  rotate_left
                  · intro w9 hSw
                    try dsimp only at hSw
                    obtain ⟨s0, s1, s2, s3, s4, s5, s6⟩ := hSw
                    go_simp
                    try with_reducible rfl
                  try simp only [Act.put, List.setIfInBounds_toArray, List.set_cons_zero, List.set_cons_succ]
                  refine wpAnyE_take (i := 1) (v := ?_) rfl (by kernel_rfl) (by kernel_rfl) (by kernel_rfl) (by kernel_rfl) (by kernel_rfl) (fun _ _ _ h => h) hS0 (by rfl) ?_ ?_
                  rotate_left
                  · intro w9 hSw
                    try dsimp only at hSw
                    obtain ⟨s0, s1, s2, s3, s4, s5, s6⟩ := hSw
                    go_simp
                    try with_reducible rfl
                  try simp only [Act.put, List.setIfInBounds_toArray, List.set_cons_zero, List.set_cons_succ]
                  refine wpAnyE_take (i := 2) (v := ?_) rfl (by kernel_rfl) (by kernel_rfl) (by kernel_rfl) (by kernel_rfl) (by kernel_rfl) (fun _ _ _ h => h) hS0 (by rfl) ?_ ?_
                  rotate_left
                  · intro w9 hSw
                    try dsimp only at hSw
                    obtain ⟨s0, s1, s2, s3, s4, s5, s6⟩ := hSw
                    go_simp
                    try with_reducible rfl
                  try simp only [Act.put, List.setIfInBounds_toArray, List.set_cons_zero, List.set_cons_succ]
                  refine wpAnyE_take (i := 3) (v := ?_) rfl (by kernel_rfl) (by kernel_rfl) (by kernel_rfl) (by kernel_rfl) (by kernel_rfl) (fun _ _ _ h => h) hS0 (by rfl) ?_ ?_
                  rotate_left
                  · intro w9 hSw
                    try dsimp only at hSw
                    obtain ⟨s0, s1, s2, s3, s4, s5, s6⟩ := hSw
                    go_simp
                    try with_reducible rfl
                  try simp only [Act.put, List.setIfInBounds_toArray, List.set_cons_zero, List.set_cons_succ]
                  refine wpAnyE_take (i := 4) (v := ?_) rfl (by kernel_rfl) (by kernel_rfl) (by kernel_rfl) (by kernel_rfl) (by kernel_rfl) (fun _ _ _ h => h) hS0 (by rfl) ?_ ?_
                  rotate_left
                  · intro w9 hSw
                    try dsimp only at hSw
                    obtain ⟨s0, s1, s2, s3, s4, s5, s6⟩ := hSw
                    go_simp
                    try with_reducible rfl
                  try simp only [Act.put, List.setIfInBounds_toArray, List.set_cons_zero, List.set_cons_succ]
                  refine wpAnyE_take (i := 5) (v := ?_) rfl (by kernel_rfl) (by kernel_rfl) (by kernel_rfl) (by kernel_rfl) (by kernel_rfl) (fun _ _ _ h => h) hS0 (by rfl) ?_ ?_
                  rotate_left
                  · intro w9 hSw
                    try dsimp only at hSw
                    obtain ⟨s0, s1, s2, s3, s4, s5, s6⟩ := hSw
                    go_simp
                    try with_reducible rfl
                  try simp only [Act.put, List.setIfInBounds_toArray, List.set_cons_zero, List.set_cons_succ]
                  refine wpAnyE_take (i := 6) (v := ?_) rfl (by kernel_rfl) (by kernel_rfl) (by kernel_rfl) (by kernel_rfl) (by kernel_rfl) (fun _ _ _ h => h) hS0 (by rfl) ?_ ?_
                  rotate_left
                  · intro w9 hSw
                    try dsimp only at hSw
                    obtain ⟨s0, s1, s2, s3, s4, s5, s6⟩ := hSw
                    go_simp
                    try with_reducible rfl
                  try simp only [Act.put, List.setIfInBounds_toArray, List.set_cons_zero, List.set_cons_succ]
                  refine wpAnyE_take (i := 7) (v := ?_) rfl (by kernel_rfl) (by kernel_rfl) (by kernel_rfl) (by kernel_rfl) (by kernel_rfl) (fun _ _ _ h => h) hS0 (by rfl) ?_ ?_
                  rotate_left
                  · intro w9 hSw
                    try dsimp only at hSw
                    obtain ⟨s0, s1, s2, s3, s4, s5, s6⟩ := hSw
                    go_simp
                    try with_reducible rfl
                  try simp only [Act.put, List.setIfInBounds_toArray, List.set_cons_zero, List.set_cons_succ]
                  refine wpAnyE_take (i := 8) (v := ?_) rfl (by kernel_rfl) (by kernel_rfl) (by kernel_rfl) (by kernel_rfl) (by kernel_rfl) (fun _ _ _ h => h) hS0 (by rfl) ?_ ?_
                  rotate_left
                  · intro w9 hSw
                    try dsimp only at hSw
                    obtain ⟨s0, s1, s2, s3, s4, s5, s6⟩ := hSw
                    go_simp
                    try with_reducible rfl
                  try simp only [Act.put, List.setIfInBounds_toArray, List.set_cons_zero, List.set_cons_succ]
                  refine wpAnyE_take (i := 9) (v := ?_) rfl (by kernel_rfl) (by kernel_rfl) (by kernel_rfl) (by kernel_rfl) (by kernel_rfl) (fun _ _ _ h => h) hS0 (by rfl) ?_ ?_
                  rotate_left
                  · intro w9 hSw
                    try dsimp only at hSw
                    obtain ⟨s0, s1, s2, s3, s4, s5, s6⟩ := hSw
                    go_simp
                    try with_reducible rfl
                  try simp only [Act.put, List.setIfInBounds_toArray, List.set_cons_zero, List.set_cons_succ]
                  refine wpAnyE_take (i := 10) (v := ?_) rfl (by kernel_rfl) (by kernel_rfl) (by kernel_rfl) (by kernel_rfl) (by kernel_rfl) (fun _ _ _ h => h) hS0 (by rfl) ?_ ?_
                  rotate_left
                  · intro w9 hSw
                    try dsimp only at hSw
                    obtain ⟨s0, s1, s2, s3, s4, s5, s6⟩ := hSw
                    go_simp
                    try with_reducible rfl
                  try simp only [Act.put, List.setIfInBounds_toArray, List.set_cons_zero, List.set_cons_succ]
                  refine wpAnyE_take (i := 11) (v := ?_) rfl (by kernel_rfl) (by kernel_rfl) (by kernel_rfl) (by kernel_rfl) (by kernel_rfl) (fun _ _ _ h => h) hS0 (by rfl) ?_ ?_
                  rotate_left
                  · intro w9 hSw
                    try dsimp only at hSw
                    obtain ⟨s0, s1, s2, s3, s4, s5, s6⟩ := hSw
                    go_simp
                    try with_reducible rfl
                  try simp only [Act.put, List.setIfInBounds_toArray, List.set_cons_zero, List.set_cons_succ]
                  refine wpAnyE_take (i := 12) (v := ?_) rfl (by kernel_rfl) (by kernel_rfl) (by kernel_rfl) (by kernel_rfl) (by kernel_rfl) (fun _ _ _ h => h) hS0 (by rfl) ?_ ?_
                  rotate_left
                  · intro w9 hSw
                    try dsimp only at hSw
                    obtain ⟨s0, s1, s2, s3, s4, s5, s6⟩ := hSw
                    go_simp
                    try with_reducible rfl
                  try simp only [Act.put, List.setIfInBounds_toArray, List.set_cons_zero, List.set_cons_succ]
                  refine wpAnyE_take (i := 13) (v := ?_) rfl (by kernel_rfl) (by kernel_rfl) (by kernel_rfl) (by kernel_rfl) (by kernel_rfl) (fun _ _ _ h => h) hS0 (by rfl) ?_ ?_
                  rotate_left
                  · intro w9 hSw
                    try dsimp only at hSw
                    obtain ⟨s0, s1, s2, s3, s4, s5, s6⟩ := hSw
                    go_simp
                    try with_reducible rfl
                  try simp only [Act.put, List.setIfInBounds_toArray, List.set_cons_zero, List.set_cons_succ]
                  refine wpAnyE_take (i := 14) (v := ?_) rfl (by kernel_rfl) (by kernel_rfl) (by kernel_rfl) (by kernel_rfl) (by kernel_rfl) (fun _ _ _ h => h) hS0 (by rfl) ?_ ?_
                  rotate_left
                  · intro w9 hSw
                    try dsimp only at hSw
                    obtain ⟨s0, s1, s2, s3, s4, s5, s6⟩ := hSw
                    go_simp
                    try with_reducible rfl
                  try simp only [Act.put, List.setIfInBounds_toArray, List.set_cons_zero, List.set_cons_succ]
                  refine wpAnyE_take (i := 15) (v := ?_) rfl (by kernel_rfl) (by kernel_rfl) (by kernel_rfl) (by kernel_rfl) (by kernel_rfl) (fun _ _ _ h => h) hS0 (by rfl) ?_ ?_
                  rotate_left
                  · intro w9 hSw
                    try dsimp only at hSw
                    obtain ⟨s0, s1, s2, s3, s4, s5, s6⟩ := hSw
                    go_simp
                    try with_reducible rfl
                  try simp only [Act.put, List.setIfInBounds_toArray, List.set_cons_zero, List.set_cons_succ]
                  refine wpAnyE_take (i := 16) (v := ?_) rfl (by kernel_rfl) (by kernel_rfl) (by kernel_rfl) (by kernel_rfl) (by kernel_rfl) (fun _ _ _ h => h) hS0 (by rfl) ?_ ?_
                  rotate_left
                  · intro w9 hSw
                    try dsimp only at hSw
                    obtain ⟨s0, s1, s2, s3, s4, s5, s6⟩ := hSw
                    go_simp
                    try with_reducible rfl
                  try simp only [Act.put, List.setIfInBounds_toArray, List.set_cons_zero, List.set_cons_succ]
                  refine wpAnyE_take (i := 17) (v := ?_) rfl (by kernel_rfl) (by kernel_rfl) (by kernel_rfl) (by kernel_rfl) (by kernel_rfl) (fun _ _ _ h => h) hS0 (by rfl) ?_ ?_
                  rotate_left
                  · intro w9 hSw
                    try dsimp only at hSw
                    obtain ⟨s0, s1, s2, s3, s4, s5, s6⟩ := hSw
                    go_simp
                    try with_reducible rfl
                  try simp only [Act.put, List.setIfInBounds_toArray, List.set_cons_zero, List.set_cons_succ]
                  refine wpAnyE_take (i := 18) (v := ?_) rfl (by kernel_rfl) (by kernel_rfl) (by kernel_rfl) (by kernel_rfl) (by kernel_rfl) (fun _ _ _ h => h) hS0 (by rfl) ?_ ?_
                  rotate_left
                  · intro w9 hSw
                    try dsimp only at hSw
                    obtain ⟨s0, s1, s2, s3, s4, s5, s6⟩ := hSw
                    go_simp
                    try with_reducible rfl
                  try simp only [Act.put, List.setIfInBounds_toArray, List.set_cons_zero, List.set_cons_succ]
                  refine wpAnyE_take (i := 19) (v := ?_) rfl (by kernel_rfl) (by kernel_rfl) (by kernel_rfl) (by kernel_rfl) (by kernel_rfl) (fun _ _ _ h => h) hS0 (by rfl) ?_ ?_
                  rotate_left
                  · intro w9 hSw
                    try dsimp only at hSw
                    obtain ⟨s0, s1, s2, s3, s4, s5, s6⟩ := hSw
                    go_simp
                    try with_reducible rfl
                  try simp only [Act.put, List.setIfInBounds_toArray, List.set_cons_zero, List.set_cons_succ]
                  refine wpAnyE_take (i := 20) (v := ?_) rfl (by kernel_rfl) (by kernel_rfl) (by kernel_rfl) (by kernel_rfl) (by kernel_rfl) (fun _ _ _ h => h) hS0 (by rfl) ?_ ?_
                  rotate_left
                  · intro w9 hSw
                    try dsimp only at hSw
                    obtain ⟨s0, s1, s2, s3, s4, s5, s6⟩ := hSw
                    go_simp
                    try with_reducible rfl
                  try simp only [Act.put, List.setIfInBounds_toArray, List.set_cons_zero, List.set_cons_succ]
                  refine wpAnyE_take (i := 21) (v := ?_) rfl (by kernel_rfl) (by kernel_rfl) (by kernel_rfl) (by kernel_rfl) (by kernel_rfl) (fun _ _ _ h => h) hS0 (by rfl) ?_ ?_
                  rotate_left
                  · intro w9 hSw
                    try dsimp only at hSw
                    obtain ⟨s0, s1, s2, s3, s4, s5, s6⟩ := hSw
                    go_simp
                    try with_reducible rfl
                  try simp only [Act.put, List.setIfInBounds_toArray, List.set_cons_zero, List.set_cons_succ]
                  refine wpAnyE_take (i := 22) (v := ?_) rfl (by kernel_rfl) (by kernel_rfl) (by kernel_rfl) (by kernel_rfl) (by kernel_rfl) (fun _ _ _ h => h) hS0 (by rfl) ?_ ?_
                  rotate_left
                  · intro w9 hSw
                    try dsimp only at hSw
                    obtain ⟨s0, s1, s2, s3, s4, s5, s6⟩ := hSw
                    go_simp
                    try with_reducible rfl
                  try simp only [Act.put, List.setIfInBounds_toArray, List.set_cons_zero, List.set_cons_succ]
                  refine wpAnyE_take (i := 23) (v := ?_) rfl (by kernel_rfl) (by kernel_rfl) (by kernel_rfl) (by kernel_rfl) (by kernel_rfl) (fun _ _ _ h => h) hS0 (by rfl) ?_ ?_
                  rotate_left
                  · intro w9 hSw
                    try dsimp only at hSw
                    obtain ⟨s0, s1, s2, s3, s4, s5, s6⟩ := hSw
                    go_simp
                    try with_reducible rfl
                  try simp only [Act.put, List.setIfInBounds_toArray, List.set_cons_zero, List.set_cons_succ]
                  refine wpAnyE_take (i := 24) (v := ?_) rfl (by kernel_rfl) (by kernel_rfl) (by kernel_rfl) (by kernel_rfl) (by kernel_rfl) (fun _ _ _ h => h) hS0 (by rfl) ?_ ?_
                  rotate_left
                  · intro w9 hSw
                    try dsimp only at hSw
                    obtain ⟨s0, s1, s2, s3, s4, s5, s6⟩ := hSw
                    go_simp
                    try with_reducible rfl
                  try simp only [Act.put, List.setIfInBounds_toArray, List.set_cons_zero, List.set_cons_succ]
                  refine wpAnyE_take (i := 25) (v := ?_) rfl (by kernel_rfl) (by kernel_rfl) (by kernel_rfl) (by kernel_rfl) (by kernel_rfl) (fun _ _ _ h => h) hS0 (by rfl) ?_ ?_
                  rotate_left
                  · intro w9 hSw
                    try dsimp only at hSw
                    obtain ⟨s0, s1, s2, s3, s4, s5, s6⟩ := hSw
                    go_simp
                    try with_reducible rfl
                  try simp only [Act.put, List.setIfInBounds_toArray, List.set_cons_zero, List.set_cons_succ]
                  refine wpAnyE_take (i := 26) (v := ?_) rfl (by kernel_rfl) (by kernel_rfl) (by kernel_rfl) (by kernel_rfl) (by kernel_rfl) (fun _ _ _ h => h) hS0 (by rfl) ?_ ?_
                  rotate_left
                  · intro w9 hSw
                    try dsimp only at hSw
                    obtain ⟨s0, s1, s2, s3, s4, s5, s6⟩ := hSw
                    go_simp
                    try with_reducible rfl
                  try simp only [Act.put, List.setIfInBounds_toArray, List.set_cons_zero, List.set_cons_succ]
                  refine wpAnyE_take (i := 27) (v := ?_) rfl (by kernel_rfl) (by kernel_rfl) (by kernel_rfl) (by kernel_rfl) (by kernel_rfl) (fun _ _ _ h => h) hS0 (by rfl) ?_ ?_
                  rotate_left
                  · intro w9 hSw
                    try dsimp only at hSw
                    obtain ⟨s0, s1, s2, s3, s4, s5, s6⟩ := hSw
                    go_simp
                    try with_reducible rfl
                  try simp only [Act.put, List.setIfInBounds_toArray, List.set_cons_zero, List.set_cons_succ]
                  refine wpAnyE_one (i := 28) rfl (by kernel_rfl) (fun K hK => ?_)
                  go_simp
                  refine hK.out _ _ (fun h => absurd rfl h) ?_
                  clear hK K
                  try simp only [Act.put, List.setIfInBounds_toArray, List.set_cons_zero, List.set_cons_succ]
                  refine wpAnyE_done (by kernel_rfl) ?_
                  have hMn := hset'.out _ _ ((hr1.now hBd).set1 e (by rw [hlkH.out]; exact hen) (if x1 < x2 + del then x2 + del else x1)) (grown_set (p := ⟨bk, e, none⟩) (grown_of_below hBd) rfl _)
                  rw [← hNewH.out] at hMn
                  have hBn := (hB.trans (hBd.mono hB.size)).setCell (p := ⟨bk, e, none⟩) hbB (.int .i64 (if x1 < x2 + del then x2 + del else x1))
                  go_wp2
                  go_roundw
                  case rel => exact ⟨q + 1, hlt3, by go_num, hMn, hBn⟩
                  case measure => simp [intOf]; omega
                · have q1 : (dv == (e : Int)) = true := by simp [hd]
                  have q2 : decide ((t : Int) ≤ (k : Int)) = false := by simp; omega
                  have hNo : Hid (eventT (gp.take (q + 1)) k e T1 = eventT (gp.take q) k e T1) := by
                    show _ = _
                    rw [hES.out, updT_no _ _ _ _ (by rw [hpH.out]; intro h; have := h.2; simp only at this; omega)]
                  clear hd
                  go_wp2
                  go_roundw
                  case rel => exact ⟨q + 1, hlt3, by go_num, by rw [hNo.out]; exact hM.now ((Below.refl _ _).alloc (Nat.le_refl _) _), hB.alloc hsq _⟩
                  case measure => simp [intOf]; omega
              · have q1 : (dv == (e : Int)) = false := by simpa using hd
                have hNo : Hid (eventT (gp.take (q + 1)) k e T1 = eventT (gp.take q) k e T1) := by
                  show _ = _
                  rw [hES.out, updT_no _ _ _ _ (by rw [hpH.out]; intro h; exact hd h.1)]
                clear hd
                go_wp2
                go_roundw
                case rel => exact ⟨q + 1, hlt3, by go_num, by rw [hNo.out]; exact hM.now ((Below.refl _ _).alloc (Nat.le_refl _) _), hB.alloc hsq _⟩
                case measure => simp [intOf]; omega
            · obtain rfl : q = gp.length := by omega
              rw [List.take_length] at hM
              rw [← hRS2.out] at hM
              go_wp2
              go_roundw
              case rel => exact ⟨i' + 1, hlt2, by go_num, hM, hB⟩
              case measure => simp [intOf]; omega
        · obtain rfl : i' = n := by omega
          have hM2 : OwnM wp X.heap.size (.slice V1 (k + 1) cv1) (timT gp o s (k + 1)) := by rw [← hTn.out]; rw [← hon, List.take_length] at hM; exact hM
          go_wp2
          go_roundw
          case rel => exact ⟨k + 1, _, _, hlt, by go_num, rfl, hM2, hB⟩
          case measure => simp [intOf]; omega
    · obtain rfl : k = N := by omega
      go_wp2
      go_ret
      exact ⟨_, rfl, hM.rebase hXs, hW.trans (hB.mono hXs)⟩
end Go.Proofs.Ytbdklhahbeiffaa
