/-
  The walks of LevelsOf, both.
-/
import Derived.Test.YtepabjdilaegoaaLevP
import Derived.Test.YtepabjdilaegoaaOrdI
namespace Go.Proofs.Ytepabjdilaegoaa
open Go.RowKit
set_option linter.unusedVariables false
set_option linter.unusedSimpArgs false

set_option maxHeartbeats 8000000 in
set_option maxRecDepth 100000 in
theorem impl_LevelsOf (v : Value) (ge : Int) (gp : List Place) (w : World) (h0 : Lst Place.cells 4 w w.heap.size v gp) :
    Calls Try.prog 35 #[.agg #[.int .i64 ge, v]] w (RetOwnI intCell 1 2 w (levF ge gp).1 (levF ge gp).2) := by
  obtain ⟨A, c, rfl⟩ := h0.shape
  go_enter Try.func35, Try.ntmps35
  go_wp2_with fail
  have hW : Below w.heap.size w (w.alloc (.cells #[.int .i64 ge, .slice A gp.length c] 28)) := (Below.refl _ _).alloc (Nat.le_refl _) _; have hb0 : Blk (w.alloc (.cells #[.int .i64 ge, .slice A gp.length c] 28)) w.heap.size 28 #[.int .i64 ge, .slice A gp.length c] := Blk.new _ _ _; replace h0 := h0.now hW; generalize (w.alloc (.cells #[.int .i64 ge, .slice A gp.length c] 28)) = W at *
  refine (impl_IsEventGraph _ _ _ _ h0).mono ?_
  rintro e w1 ⟨rfl, hB⟩
  replace hW := hW.trans (hB.mono hW.size); replace h0 := h0.now hB; replace hb0 := hb0.now hB
  obtain ⟨k0, k1⟩ := hb0.c2
  clear hB
  cases hg : okGraph ge gp
  · have hE : Hid (levF ge gp = ([], 1)) := by show _ = _; simp [levF, hg]
    clear hg
    go_wp2
    go_ret2
    exact RetOwnI.of hE.out ⟨_, rfl, Own.nil, hW⟩
  · obtain ⟨hge1, hge2⟩ := okGraph_ev hg
    have hgl := okGraph_len hg
    obtain ⟨n, rfl⟩ := Int.eq_ofNat_of_zero_le (show 0 ≤ ge by omega)
    have hg' := Lib.hid hg
    clear hg
    go_wp2_with fail
    refine (impl_firingOrder _ n gp w1 h0 hg').mono ?_
    rintro e w2 ⟨x, rfl, hO, hB⟩
    cases ho : orderF n gp with
    | none =>
      have hE : Hid (levF n gp = ([], 5)) := by show _ = _; simp [levF, hg'.out, ho]
      clear ho
      simp only [Option.isSome_none]
      go_wp2
      go_ret2
      exact RetOwnI.of hE.out ⟨_, rfl, Own.nil, hW.trans (hB.mono hW.size)⟩
    | some o =>
      have hE : Hid (levF n gp = (levs gp o (List.replicate n 0), 0)) := by show _ = _; simp [levF, hg'.out, ho]
      rw [ho] at hO
      have hOk := orderK_ok n o ho
      have hon := hOk.len
      have hrng := Lib.hid hOk.rng
      clear hOk ho
      simp only [Option.getD_some] at hO
      obtain ⟨Ov, co, rfl⟩ := own_shape_n hO hon
      replace hO := hO.lst
      replace h0 := h0.now hB
      have hb1 := hb0.now hB
      replace hW := hW.trans (hB.mono hW.size)
      obtain ⟨k0, k1⟩ := hb1.c2
      have l0 := hb1.lt
      clear hB hb0
      have hmk := run_make_lst (P := Try.prog) intCell 1 intCell_len (by omega) 0 42 2 _ 8 Try.underlying42 info_i64 rfl .i64 .i64 n (by omega) (by omega)
      have hm1 := fun w => (hmk w).1
      have hm2 := Lib.hid fun (w : World) => (hmk w).2 w.heap.size (Nat.le_refl _)
      clear hmk
      simp only [Option.isSome_some]
      have hL0 := hm2.out w2
      have hZ : Below w2.heap.size w2 (w2.alloc (.cells (madeCells (intCell 0).toArray (n * 1)) 2)) := (Below.refl _ _).alloc (Nat.le_refl _) _
      simp only [Nat.mul_one] at hL0 hZ
      go_wp2
      clear k0 k1 l0 hm1 hm2
      have hLv := Lib.hid (fun i hi => levs_ok (n := n) hgl o i hi)
      go_loopw [8, 10, 26] (fun _ _ i wr => ∃ i' : Nat, i' ≤ n ∧ i = .int .i64 i' ∧ Own intCell 1 2 wr w2.heap.size (.slice (some ⟨w2.heap.size, 0, none⟩) n n) (levs gp (o.take i') (List.replicate n 0)) ∧ Below w2.heap.size w2 wr) (fun _ _ i _ => n - (intOf i).toNat)
      case atStart => exact ⟨0, Nat.zero_le _, rfl, hL0, hZ⟩
      case round =>
        clear hL0 hZ
        obtain ⟨i', hi, rfl, hL, hB⟩ := hrel
        have hs := hB.size
        obtain ⟨wp, hwp⟩ : ∃ x, x = wr := ⟨_, rfl⟩
        subst hwp
        by_cases hlt2 : i' < n
        · obtain ⟨b4, off4, hC4, _, a0⟩ := ints_at (hO.now hB) i' (by rw [hon]; exact hlt2)
          cases hC4
          have hev := hrng.out _ (List.getElem_mem (show i' < o.length by rw [hon]; exact hlt2))
          have hRS := Lib.hid (levs_succ gp o (List.replicate n 0) i' (by rw [hon]; exact hlt2))
          have hLi := Lib.hid (hLv.out i' (by rw [hon]; exact hi))
          obtain ⟨ev, hevE⟩ : ∃ ev, o[i']'(by rw [hon]; exact hlt2) = ev := ⟨_, rfl⟩
          rw [hevE] at a0 hev
          have hevH := Lib.hid hevE
          clear hevE
          obtain ⟨e, rfl⟩ := Int.eq_ofNat_of_zero_le hev.1
          have hen : e < n := by omega
          have hb5 := hb1.now hB
          obtain ⟨k0, k1⟩ := hb5.c2
          have l0 := hb5.lt
          have hRS2 : Hid (levs gp (o.take (i' + 1)) (List.replicate n 0) = levI gp e (levs gp (o.take i') (List.replicate n 0))) := by
            show _ = _
            rw [hRS.out, hevH.out]
            rfl
          go_wp2
          clear k0 k1 l0 a0 hb5
          generalize levs gp (o.take i') (List.replicate n 0) = L1 at *
          go_loopw [10, 33] (fun _ i wr => ∃ q : Nat, q ≤ gp.length ∧ i = .int .i64 q ∧ Own intCell 1 2 wr w2.heap.size (.slice (some ⟨w2.heap.size, 0, none⟩) n n) (levI (gp.take q) e L1) ∧ Below w2.heap.size w2 wr) (fun _ i _ => gp.length - (intOf i).toNat)
          case atStart => exact ⟨0, Nat.zero_le _, rfl, hL, hB⟩
          case round =>
            clear hL hB
            obtain ⟨q, hq, rfl, hL, hB⟩ := hrel
            have hsq := hB.size
            by_cases hlt3 : q < gp.length
            · obtain ⟨b, off, hA0, hbb, d0, d1, d2, d3⟩ := places_at (h0.now hB) q hlt3
              cases hA0
              have hp := okGraph_place hg'.out (List.getElem_mem hlt3)
              have hES := Lib.hid (levI_succ gp e L1 q hlt3)
              have hLq := Lib.hid (hLi.out.evI (gp := gp) e q hq)
              obtain ⟨p, hpe⟩ : ∃ p, gp[q] = p := ⟨_, rfl⟩
              rw [hpe] at d0 d1 d2 d3 hp
              have hpH := Lib.hid hpe
              clear hpe
              obtain ⟨sv, dv, del, tk⟩ := p
              simp only at d0 d1 d2 d3 hp
              obtain ⟨⟨p1, p2⟩, -, -, -⟩ := hp
              obtain ⟨sr, rfl⟩ := Int.eq_ofNat_of_zero_le p1
              have hsn : sr < n := by omega
              by_cases hd : dv = (e : Int)
              · by_cases ht : tk = 0
                · have q1 : (dv == (e : Int)) = true := by simp [hd]
                  have q2 : (tk == 0) = true := by simp [ht]
                  subst hd
                  subst ht
                  generalize hT2 : levI (gp.take q) e L1 = L2 at *
                  clear hT2
                  have hll := hLq.out.len
                  have hNew : lvI e L2 ⟨sr, e, del, 0⟩ = L2.set e (if L2.getD e 0 < L2.getD sr 0 + 1 then L2.getD sr 0 + 1 else L2.getD e 0) := by
                    unfold lvI
                    rw [if_pos ⟨rfl, rfl⟩, max_if4]
                    rfl
                  rw [← hpH.out, ← hES.out] at hNew
                  have hNewH := Lib.hid hNew
                  clear hNew
                  go_wp2_with fail
                  have hA1 : Below wr.heap.size wr (wr.alloc (.cells #[.int .i64 sr, .int .i64 e, .int .i64 del, .int .i64 0] 67)) := (Below.refl _ _).alloc (Nat.le_refl _) _
                  have hbx := Blk.newAt wr (t := 67) (cs := #[.int .i64 sr, .int .i64 e, .int .i64 del, .int .i64 0]) _ rfl
                  replace hL := hL.now hA1
                  replace hB := hB.trans (hA1.mono hsq)
                  clear d0 d1 d2 d3 hbb hA1
                  generalize wr.alloc (.cells #[.int .i64 sr, .int .i64 e, .int .i64 del, .int .i64 0] 67) = V at *
                  generalize wr.heap.size = bx at *
                  have he2 : e < L2.length := by omega
                  have hs2 : sr < L2.length := by omega
                  have hBd : Below V.heap.size V V.drew := Below.drew (Below.refl _ V)
                  have hLd := hL.now hBd
                  obtain ⟨-, -, hfr, hce1⟩ := own_ints_at hLd e he2
                  obtain ⟨-, -, -, hce2⟩ := own_ints_at hLd sr hs2
                  rw [show L2[e] = L2.getD e 0 by simp [List.getD, List.getElem?_eq_getElem he2]] at hce1
                  rw [show L2[sr] = L2.getD sr 0 by simp [List.getD, List.getElem?_eq_getElem hs2]] at hce2
                  have hg1 := hLq.out.get e
                  have hg2 := hLq.out.get sr
                  obtain ⟨c0, c1', c2, c3⟩ := hbx.c4
                  have z0 : V.drew.cell? ⟨bx, 0, none⟩ = some (.int .i64 sr) := c0
                  have j1 : (0 : Int) ≤ (e : Int) := by omega
                  have j2 : (e : Int) < (n : Int) := by omega
                  have j3 : (0 : Int) ≤ (sr : Int) := by omega
                  have j4 : (sr : Int) < (n : Int) := by omega
                  generalize L2.getD e 0 = x1 at *
                  generalize L2.getD sr 0 = x2 at *
                  have ws : IntKind.i64.wrap (x2 + 1) = x2 + 1 := IntWalk.i64_in _ (by omega)
                  clear c0 c1' c2 c3
                  go_wp2
                  refine wp_region_E (fun w' => w'.cell? ⟨bx, 0, none⟩ = some (.int .i64 (sr : Nat)) ∧ w'.cell? ⟨w2.heap.size, e, none⟩ = some (.int .i64 x1) ∧ w'.cell? ⟨w2.heap.size, sr, none⟩ = some (.int .i64 x2)) 14 (by kernel_rfl) ?_
                  have hS0 : (fun w' : World => w'.cell? ⟨bx, 0, none⟩ = some (.int .i64 (sr : Nat)) ∧ w'.cell? ⟨w2.heap.size, e, none⟩ = some (.int .i64 x1) ∧ w'.cell? ⟨w2.heap.size, sr, none⟩ = some (.int .i64 x2)) V.drew := ⟨z0, hce1, hce2⟩
                  refine wpAnyE_take (i := 0) (v := ?_) rfl (by kernel_rfl) (by kernel_rfl) (by kernel_rfl) (by kernel_rfl) (by kernel_rfl) (fun _ _ _ h => h) hS0 (by rfl) ?_ ?_
                  rotate_left
                  · intro w9 hSw
                    try dsimp only at hSw
                    obtain ⟨s0, s1, s2⟩ := hSw
                    go_simp
                    try with_reducible rfl
                  try simp only [Act.put, List.setIfInBounds_toArray, List.set_cons_zero, List.set_cons_succ]
                  refine wpAnyE_take (i := 1) (v := ?_) rfl (by kernel_rfl) (by kernel_rfl) (by kernel_rfl) (by kernel_rfl) (by kernel_rfl) (fun _ _ _ h => h) hS0 (by rfl) ?_ ?_
                  rotate_left
                  · intro w9 hSw
                    try dsimp only at hSw
                    obtain ⟨s0, s1, s2⟩ := hSw
                    go_simp
                    try with_reducible rfl
                  try simp only [Act.put, List.setIfInBounds_toArray, List.set_cons_zero, List.set_cons_succ]
                  refine wpAnyE_take (i := 2) (v := ?_) rfl (by kernel_rfl) (by kernel_rfl) (by kernel_rfl) (by kernel_rfl) (by kernel_rfl) (fun _ _ _ h => h) hS0 (by rfl) ?_ ?_
                  rotate_left
                  · intro w9 hSw
                    try dsimp only at hSw
                    obtain ⟨s0, s1, s2⟩ := hSw
                    go_simp
                    try with_reducible rfl
                  try simp only [Act.put, List.setIfInBounds_toArray, List.set_cons_zero, List.set_cons_succ]
                  refine wpAnyE_take (i := 3) (v := ?_) rfl (by kernel_rfl) (by kernel_rfl) (by kernel_rfl) (by kernel_rfl) (by kernel_rfl) (fun _ _ _ h => h) hS0 (by rfl) ?_ ?_
                  rotate_left
                  · intro w9 hSw
                    try dsimp only at hSw
                    obtain ⟨s0, s1, s2⟩ := hSw
                    go_simp
                    try with_reducible rfl
                  try simp only [Act.put, List.setIfInBounds_toArray, List.set_cons_zero, List.set_cons_succ]
                  refine wpAnyE_take (i := 4) (v := ?_) rfl (by kernel_rfl) (by kernel_rfl) (by kernel_rfl) (by kernel_rfl) (by kernel_rfl) (fun _ _ _ h => h) hS0 (by rfl) ?_ ?_
                  rotate_left
                  · intro w9 hSw
                    try dsimp only at hSw
                    obtain ⟨s0, s1, s2⟩ := hSw
                    go_simp
                    try with_reducible rfl
                  try simp only [Act.put, List.setIfInBounds_toArray, List.set_cons_zero, List.set_cons_succ]
                  refine wpAnyE_take (i := 5) (v := ?_) rfl (by kernel_rfl) (by kernel_rfl) (by kernel_rfl) (by kernel_rfl) (by kernel_rfl) (fun _ _ _ h => h) hS0 (by rfl) ?_ ?_
                  rotate_left
                  · intro w9 hSw
                    try dsimp only at hSw
                    obtain ⟨s0, s1, s2⟩ := hSw
                    go_simp
                    try with_reducible rfl
                  try simp only [Act.put, List.setIfInBounds_toArray, List.set_cons_zero, List.set_cons_succ]
                  refine wpAnyE_take (i := 6) (v := ?_) rfl (by kernel_rfl) (by kernel_rfl) (by kernel_rfl) (by kernel_rfl) (by kernel_rfl) (fun _ _ _ h => h) hS0 (by rfl) ?_ ?_
                  rotate_left
                  · intro w9 hSw
                    try dsimp only at hSw
                    obtain ⟨s0, s1, s2⟩ := hSw
                    go_simp
                    try with_reducible rfl
                  try simp only [Act.put, List.setIfInBounds_toArray, List.set_cons_zero, List.set_cons_succ]
                  refine wpAnyE_take (i := 7) (v := ?_) rfl (by kernel_rfl) (by kernel_rfl) (by kernel_rfl) (by kernel_rfl) (by kernel_rfl) (fun _ _ _ h => h) hS0 (by rfl) ?_ ?_
                  rotate_left
                  · intro w9 hSw
                    try dsimp only at hSw
                    obtain ⟨s0, s1, s2⟩ := hSw
                    go_simp
                    try with_reducible rfl
                  try simp only [Act.put, List.setIfInBounds_toArray, List.set_cons_zero, List.set_cons_succ]
                  refine wpAnyE_take (i := 8) (v := ?_) rfl (by kernel_rfl) (by kernel_rfl) (by kernel_rfl) (by kernel_rfl) (by kernel_rfl) (fun _ _ _ h => h) hS0 (by rfl) ?_ ?_
                  rotate_left
                  · intro w9 hSw
                    try dsimp only at hSw
                    obtain ⟨s0, s1, s2⟩ := hSw
                    go_simp
                    try with_reducible rfl
                  try simp only [Act.put, List.setIfInBounds_toArray, List.set_cons_zero, List.set_cons_succ]
                  refine wpAnyE_take (i := 9) (v := ?_) rfl (by kernel_rfl) (by kernel_rfl) (by kernel_rfl) (by kernel_rfl) (by kernel_rfl) (fun _ _ _ h => h) hS0 (by rfl) ?_ ?_
                  rotate_left
                  · intro w9 hSw
                    try dsimp only at hSw
                    obtain ⟨s0, s1, s2⟩ := hSw
                    go_simp
                    try with_reducible rfl
                  try simp only [Act.put, List.setIfInBounds_toArray, List.set_cons_zero, List.set_cons_succ]
                  refine wpAnyE_take (i := 10) (v := ?_) rfl (by kernel_rfl) (by kernel_rfl) (by kernel_rfl) (by kernel_rfl) (by kernel_rfl) (fun _ _ _ h => h) hS0 (by rfl) ?_ ?_
                  rotate_left
                  · intro w9 hSw
                    try dsimp only at hSw
                    obtain ⟨s0, s1, s2⟩ := hSw
                    go_simp
                    try with_reducible rfl
                  try simp only [Act.put, List.setIfInBounds_toArray, List.set_cons_zero, List.set_cons_succ]
                  refine wpAnyE_take (i := 11) (v := ?_) rfl (by kernel_rfl) (by kernel_rfl) (by kernel_rfl) (by kernel_rfl) (by kernel_rfl) (fun _ _ _ h => h) hS0 (by rfl) ?_ ?_
                  rotate_left
                  · intro w9 hSw
                    try dsimp only at hSw
                    obtain ⟨s0, s1, s2⟩ := hSw
                    go_simp
                    try with_reducible rfl
                  try simp only [Act.put, List.setIfInBounds_toArray, List.set_cons_zero, List.set_cons_succ]
                  refine wpAnyE_take (i := 12) (v := ?_) rfl (by kernel_rfl) (by kernel_rfl) (by kernel_rfl) (by kernel_rfl) (by kernel_rfl) (fun _ _ _ h => h) hS0 (by rfl) ?_ ?_
                  rotate_left
                  · intro w9 hSw
                    try dsimp only at hSw
                    obtain ⟨s0, s1, s2⟩ := hSw
                    go_simp
                    try with_reducible rfl
                  try simp only [Act.put, List.setIfInBounds_toArray, List.set_cons_zero, List.set_cons_succ]
                  refine wpAnyE_take (i := 13) (v := ?_) rfl (by kernel_rfl) (by kernel_rfl) (by kernel_rfl) (by kernel_rfl) (by kernel_rfl) (fun _ _ _ h => h) hS0 (by rfl) ?_ ?_
                  rotate_left
                  · intro w9 hSw
                    try dsimp only at hSw
                    obtain ⟨s0, s1, s2⟩ := hSw
                    go_simp
                    try with_reducible rfl
                  try simp only [Act.put, List.setIfInBounds_toArray, List.set_cons_zero, List.set_cons_succ]
                  refine wpAnyE_one (i := 14) rfl (by kernel_rfl) (fun K hK => ?_)
                  go_simp
                  refine hK.out _ _ (fun h => absurd rfl h) ?_
                  clear hK K
                  try simp only [Act.put, List.setIfInBounds_toArray, List.set_cons_zero, List.set_cons_succ]
                  refine wpAnyE_done (by kernel_rfl) ?_
                  have hLn := hLd.set1 e he2 (if x1 < x2 + 1 then x2 + 1 else x1)
                  rw [← hNewH.out] at hLn
                  have hBn := (hB.trans (hBd.mono hB.size)).setCell (p := ⟨w2.heap.size, e, none⟩) (Nat.le_refl _) (.int .i64 (if x1 < x2 + 1 then x2 + 1 else x1))
                  go_wp2
                  go_roundw
                  case rel => exact ⟨q + 1, hlt3, by go_num, hLn, hBn⟩
                  case measure => simp [intOf]; omega
                · have q1 : (dv == (e : Int)) = true := by simp [hd]
                  have q2 : (tk == 0) = false := by simpa using ht
                  have hNo : Hid (levI (gp.take (q + 1)) e L1 = levI (gp.take q) e L1) := by
                    show _ = _
                    rw [hES.out, hpH.out]
                    unfold lvI
                    rw [if_neg (fun h => ht h.2)]
                  clear hd ht
                  go_wp2
                  go_roundw
                  case rel => exact ⟨q + 1, hlt3, by go_num, by rw [hNo.out]; exact hL.alloc _, hB.alloc hsq _⟩
                  case measure => simp [intOf]; omega
              · have q1 : (dv == (e : Int)) = false := by simpa using hd
                have hNo : Hid (levI (gp.take (q + 1)) e L1 = levI (gp.take q) e L1) := by
                  show _ = _
                  rw [hES.out, hpH.out]
                  unfold lvI
                  rw [if_neg (fun h => hd h.1)]
                clear hd
                go_wp2
                go_roundw
                case rel => exact ⟨q + 1, hlt3, by go_num, by rw [hNo.out]; exact hL.alloc _, hB.alloc hsq _⟩
                case measure => simp [intOf]; omega
            · obtain rfl : q = gp.length := by omega
              rw [List.take_length] at hL
              rw [← hRS2.out] at hL
              go_wp2
              go_roundw
              case rel => exact ⟨i' + 1, hlt2, by go_num, hL, hB⟩
              case measure => simp [intOf]; omega
        · obtain rfl : i' = n := by omega
          rw [← hon, List.take_length, hon] at hL
          go_wp2
          go_ret2
          exact RetOwnI.of hE.out ⟨_, rfl, hL.rebase hW.size, hW.trans (hB.mono hW.size)⟩
set_option maxHeartbeats 8000000 in
set_option maxRecDepth 100000 in
theorem spec_LevelsOf (v : Value) (ge : Int) (gp : List Place) (w : World) (h0 : Lst Place.cells 4 w w.heap.size v gp) :
    Calls Try.prog 34 #[.agg #[.int .i64 ge, v]] w (RetOwnI intCell 1 2 w (levF ge gp).1 (levF ge gp).2) := by
  obtain ⟨A, c, rfl⟩ := h0.shape
  go_enter Try.func34, Try.ntmps34
  go_wp2_with fail
  have hW : Below w.heap.size w (w.alloc (.cells #[.int .i64 ge, .slice A gp.length c] 28)) := (Below.refl _ _).alloc (Nat.le_refl _) _; have hb0 : Blk (w.alloc (.cells #[.int .i64 ge, .slice A gp.length c] 28)) w.heap.size 28 #[.int .i64 ge, .slice A gp.length c] := Blk.new _ _ _; replace h0 := h0.now hW; generalize (w.alloc (.cells #[.int .i64 ge, .slice A gp.length c] 28)) = W at *
  refine (spec_l12Live _ _ _ _ h0).mono ?_
  rintro e w1 ⟨rfl, hB⟩
  replace hW := hW.trans (hB.mono hW.size); replace h0 := h0.now hB; replace hb0 := hb0.now hB
  obtain ⟨k0, k1⟩ := hb0.c2
  clear hB
  cases hg : okGraph ge gp
  · have hE : Hid (levF ge gp = ([], 1)) := by show _ = _; simp [levF, hg]
    have hC : liveC ge gp = 1 := by simp [liveC, hg]
    rw [hC]
    clear hg hC
    go_wp2
    go_ret2
    exact RetOwnI.of hE.out ⟨_, rfl, Own.nil, hW⟩
  · obtain ⟨hge1, hge2⟩ := okGraph_ev hg
    have hgl := okGraph_len hg
    obtain ⟨n, rfl⟩ := Int.eq_ofNat_of_zero_le (show 0 ≤ ge by omega)
    have hg' := Lib.hid hg
    clear hg
    cases ho : orderF n gp with
    | none =>
      have hE : Hid (levF n gp = ([], 5)) := by show _ = _; simp [levF, hg'.out, ho]
      have hC : liveC n gp = 5 := by simp [liveC, hg'.out, ho]
      rw [hC]
      clear ho hC
      go_wp2
      go_ret2
      exact RetOwnI.of hE.out ⟨_, rfl, Own.nil, hW⟩
    | some o =>
      have hE : Hid (levF n gp = (levs gp o (List.replicate n 0), 0)) := by show _ = _; simp [levF, hg'.out, ho]
      have hC : liveC n gp = 0 := by simp [liveC, hg'.out, ho]
      have ho' := Lib.hid ho
      rw [hC]
      have hOk := orderK_ok n o ho
      have hon := hOk.len
      have hrng := Lib.hid hOk.rng
      have hself := Lib.hid (fun e he => live_noself (e := e) hOk he)
      clear hOk ho hC
      have hBd : Below w1.heap.size w1 w1.drew := Below.drew (Below.refl _ w1)
      have z0 : w1.drew.cell? ⟨w.heap.size, 0, none⟩ = some (.int .i64 n) := k0
      have z1 : w1.drew.cell? ⟨w.heap.size, 1, none⟩ = some (.slice A gp.length c) := k1
      go_wp2
      refine wp_region_held_drew (S := fun w' => w'.cell? ⟨w.heap.size, 0, none⟩ = some (.int .i64 n) ∧ w'.cell? ⟨w.heap.size, 1, none⟩ = some (.slice A gp.length c)) (by kernel_rfl) ⟨z0, z1⟩ (fun hH => ?_)
      refine wpAnyH_take (i := 0) (oi := { dst := _, op := _, type := _, pos := _, after := _, guard := _ }) (v := ?_) rfl (by kernel_rfl) (by kernel_rfl) (by kernel_rfl) (fun _ _ _ h => h) (Or.inl ⟨by rfl, ?_⟩) hH ?_
      rotate_left
      · intro w9 hSw
        try dsimp only at hSw
        obtain ⟨s0, s1⟩ := hSw
        go_simp
        try with_reducible rfl
      try simp only [Act.put, List.setIfInBounds_toArray, List.set_cons_zero, List.set_cons_succ]
      refine wpAnyH_take (i := 2) (oi := { dst := _, op := _, type := _, pos := _, after := _, guard := _ }) (v := ?_) rfl (by kernel_rfl) (by kernel_rfl) (by kernel_rfl) (fun _ _ _ h => h) (Or.inl ⟨by rfl, ?_⟩) hH ?_
      rotate_left
      · intro w9 hSw
        try dsimp only at hSw
        obtain ⟨s0, s1⟩ := hSw
        go_simp
        try with_reducible rfl
      try simp only [Act.put, List.setIfInBounds_toArray, List.set_cons_zero, List.set_cons_succ]
      refine wpAnyH_ready (rs := [1]) (by kernel_rfl) (by simp) ?_
      refine AllReadyH.cons rfl (fun K hK => ?_) AllReadyH.nil
      go_simp
      go_at_call 73
      refine (spec_l12Order _ n gp o w1.drew (h0.now hBd) hg' ho').mono ?_
      rintro e3 w3 ⟨x3, rfl, hO3, hB3⟩
      obtain ⟨Ov, co, rfl⟩ := own_shape_n hO3 hon
      have z0a := cell_keep (w := w1.drew) z0 hB3
      have z1a := cell_keep (w := w1.drew) z1 hB3
      refine hK.out _ _ ⟨z0a, z1a⟩ (fun hH => ?_)
      clear hK K
      try simp only [Act.put, List.setIfInBounds_toArray, List.set_cons_zero, List.set_cons_succ]
      refine wpAnyH_ready (rs := [3]) (by kernel_rfl) (by simp) ?_
      refine AllReadyH.cons rfl (fun K hK => ?_) AllReadyH.nil
      go_simp
      go_at_call 81
      refine (spec_l12Free _ n gp w3 ((h0.now hBd).now hB3) hg'.out).mono ?_
      rintro e4 w4 ⟨x4, rfl, hM4, hB4⟩
      have z0b := cell_keep z0a hB4
      have z1b := cell_keep z1a hB4
      refine hK.out _ _ ⟨z0b, z1b⟩ (fun hH => ?_)
      clear hK K
      try simp only [Act.put, List.setIfInBounds_toArray, List.set_cons_zero, List.set_cons_succ]
      refine wpAnyH_take (i := 4) (oi := { dst := _, op := _, type := _, pos := _, after := _, guard := _ }) (v := ?_) rfl (by kernel_rfl) (by kernel_rfl) (by kernel_rfl) (fun _ _ _ h => h) (Or.inl ⟨by rfl, ?_⟩) hH ?_
      rotate_left
      · intro w9 hSw
        try dsimp only at hSw
        obtain ⟨s0, s1⟩ := hSw
        go_simp
        try with_reducible rfl
      try simp only [Act.put, List.setIfInBounds_toArray, List.set_cons_zero, List.set_cons_succ]
      refine wpAnyH_take (i := 5) (oi := { dst := _, op := _, type := _, pos := _, after := _, guard := _ }) (v := ?_) rfl (by kernel_rfl) (by kernel_rfl) (by kernel_rfl) (fun _ _ _ h => h) (Or.inl ⟨by rfl, ?_⟩) hH ?_
      rotate_left
      · intro w9 hSw
        try dsimp only at hSw
        obtain ⟨s0, s1⟩ := hSw
        go_simp
        try with_reducible rfl
      try simp only [Act.put, List.setIfInBounds_toArray, List.set_cons_zero, List.set_cons_succ]
      refine wpAnyH_done (by kernel_rfl) ?_ _
      have hB2 := hBd.trans (hB3.trans (hB4.mono hB3.size))
      replace hO := (hO3.now hB4).lst
      obtain ⟨A1, c1, rfl⟩ := hM4.shape
      rw [freeM_len] at hM4 ⊢
      replace h0 := h0.now hB2
      have hb1 := hb0.now hB2
      replace hW := hW.trans (hB2.mono hW.size)
      clear hB2 hb0 hBd hB3 hB4 z0 z1 k0 k1 hH z0a z1a z0b z1b hO3
      generalize w4 = w2 at *
      obtain ⟨k0, k1⟩ := hb1.c2
      have l0 := hb1.lt
      have hmk := run_make_lst (P := Try.prog) intCell 1 intCell_len (by omega) 0 42 2 _ 8 Try.underlying42 info_i64 rfl .i64 .i64 n (by omega) (by omega)
      have hm1 := fun w => (hmk w).1
      have hm2 := Lib.hid fun (w : World) => (hmk w).2 w.heap.size (Nat.le_refl _)
      clear hmk
      have hL0 := hm2.out w2
      have hZ : Below w2.heap.size w2 (w2.alloc (.cells (madeCells (intCell 0).toArray (n * 1)) 2)) := (Below.refl _ _).alloc (Nat.le_refl _) _
      simp only [Nat.mul_one] at hL0 hZ
      go_wp2
      clear k0 k1 l0 hm1 hm2
      have hLv := Lib.hid (fun i hi => levs_ok (n := n) hgl o i hi)
      go_loopw [8, 9] (fun i _ wr => ∃ i' : Nat, i' ≤ n ∧ i = .int .i64 i' ∧ Own intCell 1 2 wr w2.heap.size (.slice (some ⟨w2.heap.size, 0, none⟩) n n) (levs gp (o.take i') (List.replicate n 0)) ∧ Below w2.heap.size w2 wr) (fun i _ _ => n - (intOf i).toNat)
      case atStart => exact ⟨0, Nat.zero_le _, rfl, hL0, hZ⟩
      case round =>
        clear hL0 hZ
        obtain ⟨i', hi, rfl, hL, hB⟩ := hrel
        have hs := hB.size
        obtain ⟨wp, hwp⟩ : ∃ x, x = wr := ⟨_, rfl⟩
        subst hwp
        by_cases hlt2 : i' < n
        · have hev := hrng.out _ (List.getElem_mem (show i' < o.length by rw [hon]; exact hlt2))
          have hRS := Lib.hid (levs_succ gp o (List.replicate n 0) i' (by rw [hon]; exact hlt2))
          have hLi := Lib.hid (hLv.out i' (by rw [hon]; exact hi))
          obtain ⟨ev, hevE⟩ : ∃ ev, o[i']'(by rw [hon]; exact hlt2) = ev := ⟨_, rfl⟩
          rw [hevE] at hev
          have hevH := Lib.hid hevE
          clear hevE
          obtain ⟨e, rfl⟩ := Int.eq_ofNat_of_zero_le hev.1
          have hen : e < n := by omega
          have hRS2 : Hid (levs gp (o.take (i' + 1)) (List.replicate n 0) = levS (freeF gp) e n (levs gp (o.take i') (List.replicate n 0))) := by
            show _ = _
            rw [hRS.out, hevH.out, lev_same hg'.out (hself.out e hen) _ (by rw [hLi.out.len]; exact hen)]
            rfl
          go_wp2
          generalize levs gp (o.take i') (List.replicate n 0) = L1 at *
          go_loopw [9] (fun i wr => ∃ q : Nat, q ≤ n ∧ i = .int .i64 q ∧ Own intCell 1 2 wr w2.heap.size (.slice (some ⟨w2.heap.size, 0, none⟩) n n) (levS (freeF gp) e q L1) ∧ Below w2.heap.size w2 wr) (fun i _ => n - (intOf i).toNat)
          case atStart => exact ⟨0, Nat.zero_le _, rfl, hL, hB⟩
          case round =>
            clear hL hB
            obtain ⟨q, hq, rfl, hL, hB⟩ := hrel
            have hsq := hB.size
            have hb5 := hb1.now hB
            obtain ⟨k0, k1⟩ := hb5.c2
            have l0 := hb5.lt
            by_cases hlt3 : q < n
            · obtain ⟨b4, off4, hC4, -, a0⟩ := ints_at (hO.now hB) i' (by rw [hon]; exact hlt2)
              cases hC4
              rw [hevH.out] at a0
              obtain ⟨b3, off3, cM3, r3, hu3, -, r0, hr⟩ := ((hM4.now hB).lst).row e (by rw [freeM_len]; exact hen)
              rw [freeM_len] at hu3
              cases hu3
              obtain ⟨R, rc3, hv⟩ := hr.shape
              rw [freeM_row] at hv
              rw [hv] at hr r0
              obtain ⟨rb3, ro3, hR, -, q0⟩ := ints_at hr q (by rw [freeM_row]; exact hlt3)
              cases hR
              rw [freeM_get _ _ _ _ _ (by rw [freeM_row]; exact hlt3)] at q0
              clear hr hv
              have hES := Lib.hid (levS_succ (freeF gp) e q L1)
              have hLq := Lib.hid (hLi.out.evS (freeF gp) e q)
              have j1 : (0 : Int) ≤ (e : Int) := by omega
              have j2 : (e : Int) < (n : Int) := by omega
              have j3 : (0 : Int) ≤ (q : Int) := by omega
              have j4 : (q : Int) < (n : Int) := by omega
              have j5 : (0 : Int) ≤ (i' : Int) := by omega
              have j6 : (i' : Int) < (n : Int) := by omega
              rcases freeF_arc hg'.out e q with ⟨_, hx⟩ | ⟨_, hx⟩
              · rw [hx] at q0
                have hxH := Lib.hid hx
                clear hx
                generalize hT2 : levS (freeF gp) e q L1 = L2 at *
                clear hT2
                have hll := hLq.out.len
                have hNew : lvS (freeF gp) e L2 q = L2.set e (if L2.getD e 0 < L2.getD q 0 + 1 then L2.getD q 0 + 1 else L2.getD e 0) := by
                  unfold lvS
                  rw [if_pos hxH.out, max_if4]
                rw [← hES.out] at hNew
                have hNewH := Lib.hid hNew
                clear hNew
                have he2 : e < L2.length := by omega
                have hs2 : q < L2.length := by omega
                have hBd : Below wr.heap.size wr wr.drew := Below.drew (Below.refl _ wr)
                have hLd := hL.now hBd
                obtain ⟨-, -, hfr, hce1⟩ := own_ints_at hLd e he2
                obtain ⟨-, -, -, hce2⟩ := own_ints_at hLd q hs2
                rw [show L2[e] = L2.getD e 0 by simp [List.getD, List.getElem?_eq_getElem he2]] at hce1
                rw [show L2[q] = L2.getD q 0 by simp [List.getD, List.getElem?_eq_getElem hs2]] at hce2
                have hg1 := hLq.out.get e
                have hg2 := hLq.out.get q
                have z0 : wr.drew.cell? ⟨b4, off4 + i', none⟩ = some (.int .i64 e) := a0
                generalize L2.getD e 0 = x1 at *
                generalize L2.getD q 0 = x2 at *
                have ws : IntKind.i64.wrap (x2 + 1) = x2 + 1 := IntWalk.i64_in _ (by omega)
                go_wp2
                refine wp_region_E (fun w' => w'.cell? ⟨b4, off4 + i', none⟩ = some (.int .i64 (e : Nat)) ∧ w'.cell? ⟨w2.heap.size, e, none⟩ = some (.int .i64 x1) ∧ w'.cell? ⟨w2.heap.size, q, none⟩ = some (.int .i64 x2)) 19 (by kernel_rfl) ?_
                have hS0 : (fun w' : World => w'.cell? ⟨b4, off4 + i', none⟩ = some (.int .i64 (e : Nat)) ∧ w'.cell? ⟨w2.heap.size, e, none⟩ = some (.int .i64 x1) ∧ w'.cell? ⟨w2.heap.size, q, none⟩ = some (.int .i64 x2)) wr.drew := ⟨z0, hce1, hce2⟩
                refine wpAnyE_take (i := 0) (v := ?_) rfl (by kernel_rfl) (by kernel_rfl) (by kernel_rfl) (by kernel_rfl) (by kernel_rfl) (fun _ _ _ h => h) hS0 (by rfl) ?_ ?_
                rotate_left
                · intro w9 hSw
                  try dsimp only at hSw
                  obtain ⟨s0, s1, s2⟩ := hSw
                  go_simp
                  try with_reducible rfl
                try simp only [Act.put, List.setIfInBounds_toArray, List.set_cons_zero, List.set_cons_succ]
                refine wpAnyE_take (i := 1) (v := ?_) rfl (by kernel_rfl) (by kernel_rfl) (by kernel_rfl) (by kernel_rfl) (by kernel_rfl) (fun _ _ _ h => h) hS0 (by rfl) ?_ ?_
                rotate_left
                · intro w9 hSw
                  try dsimp only at hSw
                  obtain ⟨s0, s1, s2⟩ := hSw
                  go_simp
                  try with_reducible rfl
                try simp only [Act.put, List.setIfInBounds_toArray, List.set_cons_zero, List.set_cons_succ]
                refine wpAnyE_take (i := 2) (v := ?_) rfl (by kernel_rfl) (by kernel_rfl) (by kernel_rfl) (by kernel_rfl) (by kernel_rfl) (fun _ _ _ h => h) hS0 (by rfl) ?_ ?_
                rotate_left
                · intro w9 hSw
                  try dsimp only at hSw
                  obtain ⟨s0, s1, s2⟩ := hSw
                  go_simp
                  try with_reducible rfl
                try simp only [Act.put, List.setIfInBounds_toArray, List.set_cons_zero, List.set_cons_succ]
                refine wpAnyE_take (i := 3) (v := ?_) rfl (by kernel_rfl) (by kernel_rfl) (by kernel_rfl) (by kernel_rfl) (by kernel_rfl) (fun _ _ _ h => h) hS0 (by rfl) ?_ ?_
                rotate_left
                · intro w9 hSw
                  try dsimp only at hSw
                  obtain ⟨s0, s1, s2⟩ := hSw
                  go_simp
                  try with_reducible rfl
                try simp only [Act.put, List.setIfInBounds_toArray, List.set_cons_zero, List.set_cons_succ]
                refine wpAnyE_take (i := 4) (v := ?_) rfl (by kernel_rfl) (by kernel_rfl) (by kernel_rfl) (by kernel_rfl) (by kernel_rfl) (fun _ _ _ h => h) hS0 (by rfl) ?_ ?_
                rotate_left
                · intro w9 hSw
                  try dsimp only at hSw
                  obtain ⟨s0, s1, s2⟩ := hSw
                  go_simp
                  try with_reducible rfl
                try simp only [Act.put, List.setIfInBounds_toArray, List.set_cons_zero, List.set_cons_succ]
                refine wpAnyE_take (i := 5) (v := ?_) rfl (by kernel_rfl) (by kernel_rfl) (by kernel_rfl) (by kernel_rfl) (by kernel_rfl) (fun _ _ _ h => h) hS0 (by rfl) ?_ ?_
                rotate_left
                · intro w9 hSw
                  try dsimp only at hSw
                  obtain ⟨s0, s1, s2⟩ := hSw
                  go_simp
                  try with_reducible rfl
                try simp only [Act.put, List.setIfInBounds_toArray, List.set_cons_zero, List.set_cons_succ]
                refine wpAnyE_take (i := 6) (v := ?_) rfl (by kernel_rfl) (by kernel_rfl) (by kernel_rfl) (by kernel_rfl) (by kernel_rfl) (fun _ _ _ h => h) hS0 (by rfl) ?_ ?_
                rotate_left
                · intro w9 hSw
                  try dsimp only at hSw
                  obtain ⟨s0, s1, s2⟩ := hSw
                  go_simp
                  try with_reducible rfl
                try simp only [Act.put, List.setIfInBounds_toArray, List.set_cons_zero, List.set_cons_succ]
                refine wpAnyE_take (i := 7) (v := ?_) rfl (by kernel_rfl) (by kernel_rfl) (by kernel_rfl) (by kernel_rfl) (by kernel_rfl) (fun _ _ _ h => h) hS0 (by rfl) ?_ ?_
                rotate_left
                · intro w9 hSw
                  try dsimp only at hSw
                  obtain ⟨s0, s1, s2⟩ := hSw
                  go_simp
                  try with_reducible rfl
                try simp only [Act.put, List.setIfInBounds_toArray, List.set_cons_zero, List.set_cons_succ]
                refine wpAnyE_take (i := 8) (v := ?_) rfl (by kernel_rfl) (by kernel_rfl) (by kernel_rfl) (by kernel_rfl) (by kernel_rfl) (fun _ _ _ h => h) hS0 (by rfl) ?_ ?_
                rotate_left
                · intro w9 hSw
                  try dsimp only at hSw
                  obtain ⟨s0, s1, s2⟩ := hSw
                  go_simp
                  try with_reducible rfl
                try simp only [Act.put, List.setIfInBounds_toArray, List.set_cons_zero, List.set_cons_succ]
                refine wpAnyE_take (i := 9) (v := ?_) rfl (by kernel_rfl) (by kernel_rfl) (by kernel_rfl) (by kernel_rfl) (by kernel_rfl) (fun _ _ _ h => h) hS0 (by rfl) ?_ ?_
                rotate_left
                · intro w9 hSw
                  try dsimp only at hSw
                  obtain ⟨s0, s1, s2⟩ := hSw
                  go_simp
                  try with_reducible rfl
                try simp only [Act.put, List.setIfInBounds_toArray, List.set_cons_zero, List.set_cons_succ]
                refine wpAnyE_take (i := 10) (v := ?_) rfl (by kernel_rfl) (by kernel_rfl) (by kernel_rfl) (by kernel_rfl) (by kernel_rfl) (fun _ _ _ h => h) hS0 (by rfl) ?_ ?_
                rotate_left
                · intro w9 hSw
                  try dsimp only at hSw
                  obtain ⟨s0, s1, s2⟩ := hSw
                  go_simp
                  try with_reducible rfl
                try simp only [Act.put, List.setIfInBounds_toArray, List.set_cons_zero, List.set_cons_succ]
                refine wpAnyE_take (i := 11) (v := ?_) rfl (by kernel_rfl) (by kernel_rfl) (by kernel_rfl) (by kernel_rfl) (by kernel_rfl) (fun _ _ _ h => h) hS0 (by rfl) ?_ ?_
                rotate_left
                · intro w9 hSw
                  try dsimp only at hSw
                  obtain ⟨s0, s1, s2⟩ := hSw
                  go_simp
                  try with_reducible rfl
                try simp only [Act.put, List.setIfInBounds_toArray, List.set_cons_zero, List.set_cons_succ]
                refine wpAnyE_take (i := 12) (v := ?_) rfl (by kernel_rfl) (by kernel_rfl) (by kernel_rfl) (by kernel_rfl) (by kernel_rfl) (fun _ _ _ h => h) hS0 (by rfl) ?_ ?_
                rotate_left
                · intro w9 hSw
                  try dsimp only at hSw
                  obtain ⟨s0, s1, s2⟩ := hSw
                  go_simp
                  try with_reducible rfl
                try simp only [Act.put, List.setIfInBounds_toArray, List.set_cons_zero, List.set_cons_succ]
                refine wpAnyE_take (i := 13) (v := ?_) rfl (by kernel_rfl) (by kernel_rfl) (by kernel_rfl) (by kernel_rfl) (by kernel_rfl) (fun _ _ _ h => h) hS0 (by rfl) ?_ ?_
                rotate_left
                · intro w9 hSw
                  try dsimp only at hSw
                  obtain ⟨s0, s1, s2⟩ := hSw
                  go_simp
                  try with_reducible rfl
                try simp only [Act.put, List.setIfInBounds_toArray, List.set_cons_zero, List.set_cons_succ]
                refine wpAnyE_take (i := 14) (v := ?_) rfl (by kernel_rfl) (by kernel_rfl) (by kernel_rfl) (by kernel_rfl) (by kernel_rfl) (fun _ _ _ h => h) hS0 (by rfl) ?_ ?_
                rotate_left
                · intro w9 hSw
                  try dsimp only at hSw
                  obtain ⟨s0, s1, s2⟩ := hSw
                  go_simp
                  try with_reducible rfl
                try simp only [Act.put, List.setIfInBounds_toArray, List.set_cons_zero, List.set_cons_succ]
                refine wpAnyE_take (i := 15) (v := ?_) rfl (by kernel_rfl) (by kernel_rfl) (by kernel_rfl) (by kernel_rfl) (by kernel_rfl) (fun _ _ _ h => h) hS0 (by rfl) ?_ ?_
                rotate_left
                · intro w9 hSw
                  try dsimp only at hSw
                  obtain ⟨s0, s1, s2⟩ := hSw
                  go_simp
                  try with_reducible rfl
                try simp only [Act.put, List.setIfInBounds_toArray, List.set_cons_zero, List.set_cons_succ]
                refine wpAnyE_take (i := 16) (v := ?_) rfl (by kernel_rfl) (by kernel_rfl) (by kernel_rfl) (by kernel_rfl) (by kernel_rfl) (fun _ _ _ h => h) hS0 (by rfl) ?_ ?_
                rotate_left
                · intro w9 hSw
                  try dsimp only at hSw
                  obtain ⟨s0, s1, s2⟩ := hSw
                  go_simp
                  try with_reducible rfl
                try simp only [Act.put, List.setIfInBounds_toArray, List.set_cons_zero, List.set_cons_succ]
                refine wpAnyE_take (i := 17) (v := ?_) rfl (by kernel_rfl) (by kernel_rfl) (by kernel_rfl) (by kernel_rfl) (by kernel_rfl) (fun _ _ _ h => h) hS0 (by rfl) ?_ ?_
                rotate_left
                · intro w9 hSw
                  try dsimp only at hSw
                  obtain ⟨s0, s1, s2⟩ := hSw
                  go_simp
                  try with_reducible rfl
                try simp only [Act.put, List.setIfInBounds_toArray, List.set_cons_zero, List.set_cons_succ]
                refine wpAnyE_take (i := 18) (v := ?_) rfl (by kernel_rfl) (by kernel_rfl) (by kernel_rfl) (by kernel_rfl) (by kernel_rfl) (fun _ _ _ h => h) hS0 (by rfl) ?_ ?_
                rotate_left
                · intro w9 hSw
                  try dsimp only at hSw
                  obtain ⟨s0, s1, s2⟩ := hSw
                  go_simp
                  try with_reducible rfl
                try simp only [Act.put, List.setIfInBounds_toArray, List.set_cons_zero, List.set_cons_succ]
                refine wpAnyE_one (i := 19) rfl (by kernel_rfl) (fun K hK => ?_)
                go_simp
                refine hK.out _ _ (fun h => absurd rfl h) ?_
                clear hK K
                try simp only [Act.put, List.setIfInBounds_toArray, List.set_cons_zero, List.set_cons_succ]
                refine wpAnyE_done (by kernel_rfl) ?_
                have hLn := hLd.set1 e he2 (if x1 < x2 + 1 then x2 + 1 else x1)
                rw [← hNewH.out] at hLn
                have hBn := (hB.trans (hBd.mono hB.size)).setCell (p := ⟨w2.heap.size, e, none⟩) (Nat.le_refl _) (.int .i64 (if x1 < x2 + 1 then x2 + 1 else x1))
                go_wp2
                go_roundw
                case rel => exact ⟨q + 1, hlt3, by go_num, hLn, hBn⟩
                case measure => simp [intOf]; omega
              · rw [hx, show bot = -1000000000000000 from rfl] at q0
                have hNo : Hid (levS (freeF gp) e (q + 1) L1 = levS (freeF gp) e q L1) := by
                  show _ = _
                  rw [hES.out]
                  unfold lvS
                  rw [if_neg (by rw [hx]; decide)]
                clear hx
                go_wp2
                go_roundw
                case rel => exact ⟨q + 1, hlt3, by go_num, by rw [hNo.out]; exact hL, hB⟩
                case measure => simp [intOf]; omega
            · obtain rfl : q = n := by omega
              rw [← hRS2.out] at hL
              go_wp2
              go_roundw
              case rel => exact ⟨i' + 1, hlt2, by go_num, hL, hB⟩
              case measure => simp [intOf]; omega
        · obtain rfl : i' = n := by omega
          rw [← hon, List.take_length, hon] at hL
          go_wp2
          go_ret2
          exact RetOwnI.of hE.out ⟨_, rfl, hL.rebase hW.size, hW.trans (hB.mono hW.size)⟩
end Go.Proofs.Ytepabjdilaegoaa
