/-
  FnSequences returns true for every input: a sequence for counts fires each event as often as told, and the program's is the reference's.
  Conditions: none beyond the statement's own.
-/
import Derived.Test.YtilfjfjoppecgaaFnSeqP
import Derived.Test.YtilfjfjoppecgaaBytes
import Derived.Test.YtilfjfjoppecgaaDrC
import Derived.Test.YtilfjfjoppecgaaSeqA
import Derived.Test.YtilfjfjoppecgaaSeqB
namespace Go.Proofs.Ytilfjfjoppecgaa
open Go.RowKit Go.ChangeShapes Go.WideShapes Go.ChangeAt Go.Deep
set_option linter.unusedVariables false
set_option linter.unusedSimpArgs false
set_option maxHeartbeats 8000000 in
set_option maxRecDepth 100000 in
theorem law_FnSequences (cv : Value) (bs : List Int) (w : World) (a0 : Lst byteCell 1 w w.heap.size cv bs) (o0 : Hid (∀ b ∈ bs, 0 ≤ b ∧ b ≤ 255)) :
    Calls Try.prog 3 #[cv] w fun e w' => e = .returned (.bool true) ∧ Below w.heap.size w w' := by
  obtain ⟨CA, cc, rfl⟩ := a0.shape
  by_cases hbig : (4096 : Int) < (bs.length : Int)
  · have hq : Hid (decide ((4096 : Int) < (bs.length : Int)) = true) := decide_eq_true hbig
    clear hbig
    go_enter Try.func3, Try.ntmps3
    go_wp2_with (go_at_call 11; refine (laws_big _ _ _ a0).mono ?_; rintro e w1 ⟨rfl, rfl⟩; rw [hq.out])
    go_ret
    exact ⟨rfl, Below.refl _ _⟩
  · have hq : Hid (decide ((4096 : Int) < (bs.length : Int)) = false) := decide_eq_false hbig
    clear hbig
    go_enter Try.func3, Try.ntmps3
    go_wp2_with fail
    refine (laws_big _ _ _ a0).mono ?_
    rintro e w1 ⟨rfl, rfl⟩
    rw [hq.out]
    go_wp2_with fail
    refine (spec_DrawSequenceFor _ bs w a0 o0).mono ?_
    rintro e w1 ⟨ge, gp, v, u, l, rfl, hg0, hg1, hglen, hll, hO, hU, hB⟩
    obtain ⟨A, c, rfl⟩ := hO.shape
    obtain ⟨U, cu, rfl⟩ := hU.shape
    have hA2 : Below w1.heap.size w1 (w1.alloc (.cells #[.int .i64 ge, .slice A gp.length c] 26)) := (Below.refl _ _).alloc (Nat.le_refl _) _
    have hbox := Blk.newAt w1 (t := 26) (cs := #[.int .i64 ge, .slice A gp.length c]) _ rfl
    go_wp2_with fail
    replace hO := hO.now hA2
    replace hU := hU.now hA2
    replace hB := hB.trans (hA2.mono hB.size)
    generalize w1.alloc (.cells #[.int .i64 ge, .slice A gp.length c] 26) = W2 at *
    generalize w1.heap.size = bg at *
    clear hA2
    obtain ⟨L, cd, hF⟩ : ∃ L cd, seqForF ge gp l = (L, cd) := ⟨_, _, rfl⟩
    refine (impl_SequenceFor _ ge gp _ l _ hO.lst hU.lst).mono ?_
    rintro e w2 ⟨x, rfl, hx, hB2⟩
    rw [hF] at hx ⊢
    obtain ⟨X, cx, rfl⟩ := hx.shape
    replace hO := hO.now hB2
    replace hU := hU.now hB2
    replace hbox := hbox.now hB2
    replace hB := hB.trans (hB2.mono hB.size)
    clear hB2
    have l0 := hbox.lt
    obtain ⟨k0, k1⟩ := hbox.c2
    go_wp2_with fail
    clear k0 k1 l0
    refine (spec_SequenceFor _ ge gp _ l _ hO.lst hU.lst).mono ?_
    rintro e w3 ⟨y, rfl, hy, hB3⟩
    rw [hF] at hy ⊢
    obtain ⟨Y, cy, rfl⟩ := hy.shape
    replace hO := hO.now hB3
    replace hU := hU.now hB3
    replace hx := hx.now hB3
    replace hbox := hbox.now hB3
    replace hB := hB.trans (hB3.mono hB.size)
    clear hB3
    have hcd : (cd != cd) = false := by simp
    have hFH := Lib.hid hF
    clear hF
    go_wp2_with fail
    refine (laws_likeInts _ _ L L _ hx.lst hy.lst).mono ?_
    rintro e w4 ⟨rfl, hB4⟩
    rw [decide_eq_true rfl]
    replace hO := hO.now hB4
    replace hU := hU.now hB4
    replace hx := hx.now hB4
    replace hbox := hbox.now hB4
    replace hB := hB.trans (hB4.mono hB.size)
    clear hB4 hy hcd
    have l0 := hbox.lt
    obtain ⟨k0, k1⟩ := hbox.c2
    by_cases hc0 : cd = 0
    · subst hc0
      obtain ⟨M, hM, hg, hll2, hlb, hLl, hLe, hz, hMl, hMv⟩ := seqFor_law hFH.out
      have hllH := Lib.hid hll2
      clear hll2
      obtain ⟨hge1, hge2⟩ := okGraph_ev hg
      have hgl := okGraph_len hg
      have hgH := Lib.hid hg
      have hzH := Lib.hid hz
      have hLeH := Lib.hid hLe
      have hlbH := Lib.hid hlb
      have hMvH := Lib.hid hMv
      have hMH := Lib.hid hM
      have hMlH := Lib.hid hMl
      clear hMl
      clear hg hz hLe hlb hMv hM
      go_wp2_with fail
      clear k0 k1 l0
      refine (impl_FireSequence _ ge gp _ L _ hO.lst hx.lst).mono ?_
      rintro e w5 ⟨m, rfl, hm, hB5⟩
      rw [hMH.out] at hm ⊢
      obtain ⟨MA, cm, rfl⟩ := hm.shape
      replace hO := hO.now hB5
      replace hU := hU.now hB5
      replace hx := hx.now hB5
      replace hbox := hbox.now hB5
      replace hB := hB.trans (hB5.mono hB.size)
      clear hB5
      have hlen : ([] : List Int).length + l.length ≤ 1099511627776 := by simp; omega
      have hs5 := hB.size
      have hUa := hU.lst.alloc (.cells #[] 2)
      go_wp2_with (at_builtin; refine wpList_append_lst rfl _ _ 27 rfl intCell 1 intCell_one (by omega) w5.heap.size 2 _ 8 Try.underlying27 info_i64 rfl _ [] rfl (own_new0 _ _ _ _ _ (Nat.le_refl _)) _ _ _ _ l rfl hUa hlen (by omega) (by simp) ?_; intro v' w6 hO1 hG1 hD1; obtain ⟨V1, cv1, rfl⟩ := own_shape_n hO1 (n := l.length) (by simp))
      have hB6 := below_app ((Below.refl w5.heap.size w5).alloc (Nat.le_refl _) _) (by simp) hG1 (own_new0 intCell 1 w5 2 w5.heap.size (Nat.le_refl _)) (Nat.le_refl _)
      rw [List.nil_append] at hO1
      go_loopw [12] (fun i wr => ∃ k : Nat, k ≤ L.length ∧ i = .int .i64 k ∧ Own intCell 1 2 wr w5.heap.size (.slice V1 l.length cv1) (decL l (L.take k)) ∧ Below w5.heap.size w5 wr) (fun i _ => L.length - (intOf i).toNat)
      case atStart => exact ⟨0, Nat.zero_le _, rfl, hO1, hB6⟩
      case round =>
        clear hO1 hB6 hG1 hD1 hUa
        obtain ⟨k, hk, rfl, hV, hBr⟩ := hrel
        by_cases hlt : k < L.length
        · obtain ⟨xb, xo, hxA, _, z0⟩ := ints_at (hx.now hBr).lst k hlt
          cases hxA
          have hek := hLeH.out _ (List.getElem_mem hlt)
          obtain ⟨e, he⟩ := Int.eq_ofNat_of_zero_le hek.1
          have hel : e < l.length := by have := hllH.out; omega
          have hdl : e < (decL l (L.take k)).length := by rw [decL_len]; exact hel
          obtain ⟨lb, cl, hv, hlb0, _⟩ := hV.at_ intCell_len e hdl
          rw [decL_len] at hv
          obtain rfl : V1 = some ⟨lb, 0, none⟩ := by injection hv
          clear hv
          obtain ⟨_, hl1, hf1, z1⟩ := own_ints_at hV e hdl
          obtain ⟨lv, hlv⟩ : ∃ lv, (decL l (L.take k))[e] = lv := ⟨_, rfl⟩
          rw [hlv] at z1
          rw [he] at z0
          have hnext : Hid (decL l (L.take (k + 1)) = (decL l (L.take k)).set e (lv - 1)) := by
            show _ = _
            rw [decL_snoc l L k hlt, he, dec1, Int.toNat_natCast, List.getD, List.getElem?_eq_getElem hdl, Option.getD_some, hlv]
          have hlvb : -100 ≤ lv ∧ lv ≤ 100 := by
            have h1 := decL_bd (L.take k) l 0 hlbH.out _ (List.getElem_mem hdl)
            rw [hlv, List.length_take] at h1
            omega
          have wm : IntKind.i64.wrap (lv - 1) = lv - 1 := IntWalk.i64_in _ (by omega)
          clear hlv he hek hlvb
          have hBd : Below wr.heap.size wr wr.drew := Below.drew (Below.refl _ wr)
          have hVn := (hV.now hBd).set1 e hdl (lv - 1)
          rw [← hnext.out] at hVn
          have hBn := (hBr.trans (hBd.mono hBr.size)).setCell (p := ⟨lb, e, none⟩) hlb0 (.int .i64 (lv - 1))
          have hVn' := Lib.hid hVn
          have hBn' := Lib.hid hBn
          replace z0 := cell_keep z0 hBd
          replace z1 := cell_keep z1 hBd
          have i1 : (0 : Int) ≤ (k : Int) := by omega
          have i2 : (k : Int) < (L.length : Int) := by omega
          have i3 : (0 : Int) ≤ (e : Int) := by omega
          have i4 : (e : Int) < (l.length : Int) := by omega
          clear hVn hBn hV hBr
          go_wp2_with fail
          refine wp_region_E (fun w' => w'.cell? ⟨xb, xo + k, none⟩ = some (.int .i64 (e : Nat)) ∧ w'.cell? ⟨lb, e, none⟩ = some (.int .i64 lv)) 14 (by kernel_rfl) ?_
          have hS0 : (fun w' : World => w'.cell? ⟨xb, xo + k, none⟩ = some (.int .i64 (e : Nat)) ∧ w'.cell? ⟨lb, e, none⟩ = some (.int .i64 lv)) wr.drew := ⟨z0, z1⟩
          refine wpAnyE_take (i := 0) (v := ?_) rfl (by kernel_rfl) (by kernel_rfl) (by kernel_rfl) (by kernel_rfl) (by kernel_rfl) (fun _ _ _ h => h) hS0 (by rfl) ?_ ?_
          rotate_left
          · intro w9 hSw
            try dsimp only at hSw
            obtain ⟨s0, s1⟩ := hSw
            go_simp
            try with_reducible rfl
          try simp only [Act.put, List.setIfInBounds_toArray, List.set_cons_zero, List.set_cons_succ]
          refine wpAnyE_take (i := 1) (v := ?_) rfl (by kernel_rfl) (by kernel_rfl) (by kernel_rfl) (by kernel_rfl) (by kernel_rfl) (fun _ _ _ h => h) hS0 (by rfl) ?_ ?_
          rotate_left
          · intro w9 hSw
            try dsimp only at hSw
            obtain ⟨s0, s1⟩ := hSw
            go_simp
            try with_reducible rfl
          try simp only [Act.put, List.setIfInBounds_toArray, List.set_cons_zero, List.set_cons_succ]
          refine wpAnyE_take (i := 2) (v := ?_) rfl (by kernel_rfl) (by kernel_rfl) (by kernel_rfl) (by kernel_rfl) (by kernel_rfl) (fun _ _ _ h => h) hS0 (by rfl) ?_ ?_
          rotate_left
          · intro w9 hSw
            try dsimp only at hSw
            obtain ⟨s0, s1⟩ := hSw
            go_simp
            try with_reducible rfl
          try simp only [Act.put, List.setIfInBounds_toArray, List.set_cons_zero, List.set_cons_succ]
          refine wpAnyE_take (i := 3) (v := ?_) rfl (by kernel_rfl) (by kernel_rfl) (by kernel_rfl) (by kernel_rfl) (by kernel_rfl) (fun _ _ _ h => h) hS0 (by rfl) ?_ ?_
          rotate_left
          · intro w9 hSw
            try dsimp only at hSw
            obtain ⟨s0, s1⟩ := hSw
            go_simp
            try with_reducible rfl
          try simp only [Act.put, List.setIfInBounds_toArray, List.set_cons_zero, List.set_cons_succ]
          refine wpAnyE_take (i := 4) (v := ?_) rfl (by kernel_rfl) (by kernel_rfl) (by kernel_rfl) (by kernel_rfl) (by kernel_rfl) (fun _ _ _ h => h) hS0 (by rfl) ?_ ?_
          rotate_left
          · intro w9 hSw
            try dsimp only at hSw
            obtain ⟨s0, s1⟩ := hSw
            go_simp
            try with_reducible rfl
          try simp only [Act.put, List.setIfInBounds_toArray, List.set_cons_zero, List.set_cons_succ]
          refine wpAnyE_take (i := 5) (v := ?_) rfl (by kernel_rfl) (by kernel_rfl) (by kernel_rfl) (by kernel_rfl) (by kernel_rfl) (fun _ _ _ h => h) hS0 (by rfl) ?_ ?_
          rotate_left
          · intro w9 hSw
            try dsimp only at hSw
            obtain ⟨s0, s1⟩ := hSw
            go_simp
            try with_reducible rfl
          try simp only [Act.put, List.setIfInBounds_toArray, List.set_cons_zero, List.set_cons_succ]
          refine wpAnyE_take (i := 6) (v := ?_) rfl (by kernel_rfl) (by kernel_rfl) (by kernel_rfl) (by kernel_rfl) (by kernel_rfl) (fun _ _ _ h => h) hS0 (by rfl) ?_ ?_
          rotate_left
          · intro w9 hSw
            try dsimp only at hSw
            obtain ⟨s0, s1⟩ := hSw
            go_simp
            try with_reducible rfl
          try simp only [Act.put, List.setIfInBounds_toArray, List.set_cons_zero, List.set_cons_succ]
          refine wpAnyE_take (i := 7) (v := ?_) rfl (by kernel_rfl) (by kernel_rfl) (by kernel_rfl) (by kernel_rfl) (by kernel_rfl) (fun _ _ _ h => h) hS0 (by rfl) ?_ ?_
          rotate_left
          · intro w9 hSw
            try dsimp only at hSw
            obtain ⟨s0, s1⟩ := hSw
            go_simp
            try with_reducible rfl
          try simp only [Act.put, List.setIfInBounds_toArray, List.set_cons_zero, List.set_cons_succ]
          refine wpAnyE_take (i := 8) (v := ?_) rfl (by kernel_rfl) (by kernel_rfl) (by kernel_rfl) (by kernel_rfl) (by kernel_rfl) (fun _ _ _ h => h) hS0 (by rfl) ?_ ?_
          rotate_left
          · intro w9 hSw
            try dsimp only at hSw
            obtain ⟨s0, s1⟩ := hSw
            go_simp
            try with_reducible rfl
          try simp only [Act.put, List.setIfInBounds_toArray, List.set_cons_zero, List.set_cons_succ]
          refine wpAnyE_take (i := 9) (v := ?_) rfl (by kernel_rfl) (by kernel_rfl) (by kernel_rfl) (by kernel_rfl) (by kernel_rfl) (fun _ _ _ h => h) hS0 (by rfl) ?_ ?_
          rotate_left
          · intro w9 hSw
            try dsimp only at hSw
            obtain ⟨s0, s1⟩ := hSw
            go_simp
            try with_reducible rfl
          try simp only [Act.put, List.setIfInBounds_toArray, List.set_cons_zero, List.set_cons_succ]
          refine wpAnyE_take (i := 10) (v := ?_) rfl (by kernel_rfl) (by kernel_rfl) (by kernel_rfl) (by kernel_rfl) (by kernel_rfl) (fun _ _ _ h => h) hS0 (by rfl) ?_ ?_
          rotate_left
          · intro w9 hSw
            try dsimp only at hSw
            obtain ⟨s0, s1⟩ := hSw
            go_simp
            try with_reducible rfl
          try simp only [Act.put, List.setIfInBounds_toArray, List.set_cons_zero, List.set_cons_succ]
          refine wpAnyE_take (i := 11) (v := ?_) rfl (by kernel_rfl) (by kernel_rfl) (by kernel_rfl) (by kernel_rfl) (by kernel_rfl) (fun _ _ _ h => h) hS0 (by rfl) ?_ ?_
          rotate_left
          · intro w9 hSw
            try dsimp only at hSw
            obtain ⟨s0, s1⟩ := hSw
            go_simp
            try with_reducible rfl
          try simp only [Act.put, List.setIfInBounds_toArray, List.set_cons_zero, List.set_cons_succ]
          refine wpAnyE_take (i := 12) (v := ?_) rfl (by kernel_rfl) (by kernel_rfl) (by kernel_rfl) (by kernel_rfl) (by kernel_rfl) (fun _ _ _ h => h) hS0 (by rfl) ?_ ?_
          rotate_left
          · intro w9 hSw
            try dsimp only at hSw
            obtain ⟨s0, s1⟩ := hSw
            go_simp
            try with_reducible rfl
          try simp only [Act.put, List.setIfInBounds_toArray, List.set_cons_zero, List.set_cons_succ]
          refine wpAnyE_take (i := 13) (v := ?_) rfl (by kernel_rfl) (by kernel_rfl) (by kernel_rfl) (by kernel_rfl) (by kernel_rfl) (fun _ _ _ h => h) hS0 (by rfl) ?_ ?_
          rotate_left
          · intro w9 hSw
            try dsimp only at hSw
            obtain ⟨s0, s1⟩ := hSw
            go_simp
            try with_reducible rfl
          try simp only [Act.put, List.setIfInBounds_toArray, List.set_cons_zero, List.set_cons_succ]
          refine wpAnyE_one (i := 14) rfl (by kernel_rfl) (fun K hK => ?_)
          go_simp
          refine hK.out _ _ (fun h => absurd rfl h) ?_
          clear hK K
          try simp only [Act.put, List.setIfInBounds_toArray, List.set_cons_zero, List.set_cons_succ]
          refine wpAnyE_done (by kernel_rfl) ?_
          clear hS0 z0 z1
          go_wp2
          go_roundw
          case rel => exact ⟨k + 1, hlt, by go_num, hVn'.out, hBn'.out⟩
          case measure => simp [intOf]; omega
        · obtain rfl : k = L.length := by omega
          rw [List.take_length] at hV
          have hV' := Lib.hid hV
          have hBr' := Lib.hid hBr
          go_wp2
          obtain ⟨wo, rfl⟩ : ∃ wo : World, wo = wr := ⟨_, rfl⟩
          go_loop [13] (fun i => ∃ k : Nat, k ≤ l.length ∧ i = .int .i64 k) (fun i => l.length - (intOf i).toNat)
          case atStart => exact ⟨0, Nat.zero_le _, rfl⟩
          case round =>
            obtain ⟨q, hqk, rfl⟩ := hrel
            by_cases hlt2 : q < l.length
            · have hdl : q < (decL l L).length := by rw [decL_len]; exact hlt2
              obtain ⟨lb, cl, hv, _, _, _, _⟩ := hV'.out.at_ intCell_len q hdl
              rw [decL_len] at hv
              obtain rfl : V1 = some ⟨lb, 0, none⟩ := by injection hv
              clear hv
              obtain ⟨_, _, _, z1⟩ := own_ints_at hV'.out q hdl
              rw [hzH.out _ (List.getElem_mem hdl)] at z1
              go_wp2
              go_round
              case rel => exact ⟨q + 1, hlt2, by go_num⟩
              case measure => simp [intOf]; omega
            · obtain rfl : q = l.length := by omega
              go_wp2
              have hmL := (hm.now hBr'.out).lst
              have hxO := (hO.now hBr'.out).lst
              have hxU := (hU.now hBr'.out).lst
              have hbx := hbox.now hBr'.out
              have hBfin := Lib.hid (hB.trans (hBr'.out.mono hB.size))
              go_loopw [14] (fun i wr => ∃ k : Nat, k ≤ M.length ∧ i = .int .i64 k ∧ Below wo.heap.size wo wr) (fun i _ => M.length - (intOf i).toNat)
              case atStart => exact ⟨0, Nat.zero_le _, rfl, Below.refl _ _⟩
              case round =>
                obtain ⟨k, hk, rfl, hb⟩ := hrel
                by_cases hlt3 : k < M.length
                · have hkg : k < gp.length := by have := hMlH.out; omega
                  obtain ⟨mb, mo, hmA, _, z0⟩ := ints_at (hmL.now hb) k hlt3
                  cases hmA
                  obtain ⟨pb, po, hpA, _, z2, z3, _, z4⟩ := places_at (hxO.now hb) k hkg
                  cases hpA
                  have hp := okGraph_place hgH.out (List.getElem_mem hkg)
                  obtain ⟨s, hs⟩ := Int.eq_ofNat_of_zero_le hp.1.1
                  obtain ⟨d, hd⟩ := Int.eq_ofNat_of_zero_le hp.2.1.1
                  have hsl : s < l.length := by have := hllH.out; omega
                  have hdl : d < l.length := by have := hllH.out; omega
                  obtain ⟨ub, uo, huA, _, z5⟩ := ints_at (hxU.now hb) s hsl
                  cases huA
                  obtain ⟨_, _, huA, _, z6⟩ := ints_at (hxU.now hb) d hdl
                  cases huA
                  have hval := hMvH.out k hkg hlt3
                  rw [hs, hd, Int.toNat_natCast, Int.toNat_natCast, List.getD, List.getElem?_eq_getElem hsl, List.getD, List.getElem?_eq_getElem hdl, Option.getD_some, Option.getD_some] at hval
                  rw [hs] at z2
                  rw [hd] at z3
                  have hsb := hlbH.out _ (List.getElem_mem hsl)
                  have hdb := hlbH.out _ (List.getElem_mem hdl)
                  have htb := hp.2.2.2
                  obtain ⟨mv, hmv⟩ : ∃ mv, M[k] = mv := ⟨_, rfl⟩
                  obtain ⟨tk, htk⟩ : ∃ tk, gp[k].tokens = tk := ⟨_, rfl⟩
                  obtain ⟨sv, hsv⟩ : ∃ sv, l[s] = sv := ⟨_, rfl⟩
                  obtain ⟨dv, hdv⟩ : ∃ dv, l[d] = dv := ⟨_, rfl⟩
                  rw [hmv] at z0 hval
                  rw [htk] at z4 hval htb
                  rw [hsv] at z5 hval hsb
                  rw [hdv] at z6 hval hdb
                  clear hmv htk hsv hdv hs hd hp
                  have w1' : IntKind.i64.wrap (tk + sv) = tk + sv := IntWalk.i64_in _ (by omega)
                  have w2' : IntKind.i64.wrap (tk + sv - dv) = tk + sv - dv := IntWalk.i64_in _ (by omega)
                  have hne : (mv != tk + sv - dv) = false := by simp [hval]
                  clear hval hsb hdb htb
                  have hBd : Below wr.heap.size wr wr.drew := Below.drew (Below.refl _ wr)
                  have z1 : wr.cell? ⟨bg, 1, none⟩ = some (.slice (some ⟨pb, po, none⟩) gp.length c) := (hbx.now hb).c2.2
                  replace z0 := cell_keep z0 hBd
                  replace z1 := cell_keep z1 hBd
                  replace z2 := cell_keep z2 hBd
                  replace z3 := cell_keep z3 hBd
                  replace z4 := cell_keep z4 hBd
                  replace z5 := cell_keep z5 hBd
                  replace z6 := cell_keep z6 hBd
                  have i1 : (0 : Int) ≤ (k : Int) := by omega
                  have i2 : (k : Int) < (M.length : Int) := by omega
                  have i2' : (k : Int) < (gp.length : Int) := by omega
                  have i3 : (0 : Int) ≤ (s : Int) := by omega
                  have i4 : (s : Int) < (l.length : Int) := by omega
                  have i5 : (0 : Int) ≤ (d : Int) := by omega
                  have i6 : (d : Int) < (l.length : Int) := by omega
                  have hbn := Lib.hid (hb.trans (hBd.mono hb.size))
                  go_wp2_with fail
                  refine wp_region_held_drew (S := fun w' => w'.cell? ⟨mb, mo + k, none⟩ = some (.int .i64 mv) ∧ w'.cell? ⟨bg, 1, none⟩ = some (.slice (some ⟨pb, po, none⟩) gp.length c) ∧ w'.cell? ⟨pb, po + k * 4, none⟩ = some (.int .i64 (s : Nat)) ∧ w'.cell? ⟨pb, po + k * 4 + 1, none⟩ = some (.int .i64 (d : Nat)) ∧ w'.cell? ⟨pb, po + k * 4 + 3, none⟩ = some (.int .i64 tk) ∧ w'.cell? ⟨ub, uo + s, none⟩ = some (.int .i64 sv) ∧ w'.cell? ⟨ub, uo + d, none⟩ = some (.int .i64 dv)) (by kernel_rfl) ⟨z0, z1, z2, z3, z4, z5, z6⟩ (fun hH => ?_)
                  refine wpAnyH_take (i := 0) (oi := { dst := _, op := _, type := _, pos := _, after := _, guard := _ }) (v := ?_) rfl (by kernel_rfl) (by kernel_rfl) (by kernel_rfl) (fun _ _ _ h => h) (Or.inl ⟨by rfl, ?_⟩) hH ?_
                  rotate_left
                  · intro w9 hSw
                    try dsimp only at hSw
                    obtain ⟨s0, s1, s2, s3, s4, s5, s6⟩ := hSw
                    go_simp
                    try with_reducible rfl
                  try simp only [Act.put, List.setIfInBounds_toArray, List.set_cons_zero, List.set_cons_succ]
                  refine wpAnyH_take (i := 1) (oi := { dst := _, op := _, type := _, pos := _, after := _, guard := _ }) (v := ?_) rfl (by kernel_rfl) (by kernel_rfl) (by kernel_rfl) (fun _ _ _ h => h) (Or.inl ⟨by rfl, ?_⟩) hH ?_
                  rotate_left
                  · intro w9 hSw
                    try dsimp only at hSw
                    obtain ⟨s0, s1, s2, s3, s4, s5, s6⟩ := hSw
                    go_simp
                    try with_reducible rfl
                  try simp only [Act.put, List.setIfInBounds_toArray, List.set_cons_zero, List.set_cons_succ]
                  refine wpAnyH_take (i := 2) (oi := { dst := _, op := _, type := _, pos := _, after := _, guard := _ }) (v := ?_) rfl (by kernel_rfl) (by kernel_rfl) (by kernel_rfl) (fun _ _ _ h => h) (Or.inl ⟨by rfl, ?_⟩) hH ?_
                  rotate_left
                  · intro w9 hSw
                    try dsimp only at hSw
                    obtain ⟨s0, s1, s2, s3, s4, s5, s6⟩ := hSw
                    go_simp
                    try with_reducible rfl
                  try simp only [Act.put, List.setIfInBounds_toArray, List.set_cons_zero, List.set_cons_succ]
                  refine wpAnyH_take (i := 3) (oi := { dst := _, op := _, type := _, pos := _, after := _, guard := _ }) (v := ?_) rfl (by kernel_rfl) (by kernel_rfl) (by kernel_rfl) (fun _ _ _ h => h) (Or.inl ⟨by rfl, ?_⟩) hH ?_
                  rotate_left
                  · intro w9 hSw
                    try dsimp only at hSw
                    obtain ⟨s0, s1, s2, s3, s4, s5, s6⟩ := hSw
                    go_simp
                    try with_reducible rfl
                  try simp only [Act.put, List.setIfInBounds_toArray, List.set_cons_zero, List.set_cons_succ]
                  refine wpAnyH_take (i := 4) (oi := { dst := _, op := _, type := _, pos := _, after := _, guard := _ }) (v := ?_) rfl (by kernel_rfl) (by kernel_rfl) (by kernel_rfl) (fun _ _ _ h => h) (Or.inl ⟨by rfl, ?_⟩) hH ?_
                  rotate_left
                  · intro w9 hSw
                    try dsimp only at hSw
                    obtain ⟨s0, s1, s2, s3, s4, s5, s6⟩ := hSw
                    go_simp
                    try with_reducible rfl
                  try simp only [Act.put, List.setIfInBounds_toArray, List.set_cons_zero, List.set_cons_succ]
                  refine wpAnyH_take (i := 5) (oi := { dst := _, op := _, type := _, pos := _, after := _, guard := _ }) (v := ?_) rfl (by kernel_rfl) (by kernel_rfl) (by kernel_rfl) (fun _ _ _ h => h) (Or.inl ⟨by rfl, ?_⟩) hH ?_
                  rotate_left
                  · intro w9 hSw
                    try dsimp only at hSw
                    obtain ⟨s0, s1, s2, s3, s4, s5, s6⟩ := hSw
                    go_simp
                    try with_reducible rfl
                  try simp only [Act.put, List.setIfInBounds_toArray, List.set_cons_zero, List.set_cons_succ]
                  refine wpAnyH_take (i := 6) (oi := { dst := _, op := _, type := _, pos := _, after := _, guard := _ }) (v := ?_) rfl (by kernel_rfl) (by kernel_rfl) (by kernel_rfl) (fun _ _ _ h => h) (Or.inl ⟨by rfl, ?_⟩) hH ?_
                  rotate_left
                  · intro w9 hSw
                    try dsimp only at hSw
                    obtain ⟨s0, s1, s2, s3, s4, s5, s6⟩ := hSw
                    go_simp
                    try with_reducible rfl
                  try simp only [Act.put, List.setIfInBounds_toArray, List.set_cons_zero, List.set_cons_succ]
                  refine wpAnyH_take (i := 7) (oi := { dst := _, op := _, type := _, pos := _, after := _, guard := _ }) (v := ?_) rfl (by kernel_rfl) (by kernel_rfl) (by kernel_rfl) (fun _ _ _ h => h) (Or.inl ⟨by rfl, ?_⟩) hH ?_
                  rotate_left
                  · intro w9 hSw
                    try dsimp only at hSw
                    obtain ⟨s0, s1, s2, s3, s4, s5, s6⟩ := hSw
                    go_simp
                    try with_reducible rfl
                  try simp only [Act.put, List.setIfInBounds_toArray, List.set_cons_zero, List.set_cons_succ]
                  refine wpAnyH_take (i := 8) (oi := { dst := _, op := _, type := _, pos := _, after := _, guard := _ }) (v := ?_) rfl (by kernel_rfl) (by kernel_rfl) (by kernel_rfl) (fun _ _ _ h => h) (Or.inl ⟨by rfl, ?_⟩) hH ?_
                  rotate_left
                  · intro w9 hSw
                    try dsimp only at hSw
                    obtain ⟨s0, s1, s2, s3, s4, s5, s6⟩ := hSw
                    go_simp
                    try with_reducible rfl
                  try simp only [Act.put, List.setIfInBounds_toArray, List.set_cons_zero, List.set_cons_succ]
                  refine wpAnyH_take (i := 9) (oi := { dst := _, op := _, type := _, pos := _, after := _, guard := _ }) (v := ?_) rfl (by kernel_rfl) (by kernel_rfl) (by kernel_rfl) (fun _ _ _ h => h) (Or.inl ⟨by rfl, ?_⟩) hH ?_
                  rotate_left
                  · intro w9 hSw
                    try dsimp only at hSw
                    obtain ⟨s0, s1, s2, s3, s4, s5, s6⟩ := hSw
                    go_simp
                    try with_reducible rfl
                  try simp only [Act.put, List.setIfInBounds_toArray, List.set_cons_zero, List.set_cons_succ]
                  refine wpAnyH_take (i := 10) (oi := { dst := _, op := _, type := _, pos := _, after := _, guard := _ }) (v := ?_) rfl (by kernel_rfl) (by kernel_rfl) (by kernel_rfl) (fun _ _ _ h => h) (Or.inl ⟨by rfl, ?_⟩) hH ?_
                  rotate_left
                  · intro w9 hSw
                    try dsimp only at hSw
                    obtain ⟨s0, s1, s2, s3, s4, s5, s6⟩ := hSw
                    go_simp
                    try with_reducible rfl
                  try simp only [Act.put, List.setIfInBounds_toArray, List.set_cons_zero, List.set_cons_succ]
                  refine wpAnyH_take (i := 11) (oi := { dst := _, op := _, type := _, pos := _, after := _, guard := _ }) (v := ?_) rfl (by kernel_rfl) (by kernel_rfl) (by kernel_rfl) (fun _ _ _ h => h) (Or.inl ⟨by rfl, ?_⟩) hH ?_
                  rotate_left
                  · intro w9 hSw
                    try dsimp only at hSw
                    obtain ⟨s0, s1, s2, s3, s4, s5, s6⟩ := hSw
                    go_simp
                    try with_reducible rfl
                  try simp only [Act.put, List.setIfInBounds_toArray, List.set_cons_zero, List.set_cons_succ]
                  refine wpAnyH_take (i := 12) (oi := { dst := _, op := _, type := _, pos := _, after := _, guard := _ }) (v := ?_) rfl (by kernel_rfl) (by kernel_rfl) (by kernel_rfl) (fun _ _ _ h => h) (Or.inl ⟨by rfl, ?_⟩) hH ?_
                  rotate_left
                  · intro w9 hSw
                    try dsimp only at hSw
                    obtain ⟨s0, s1, s2, s3, s4, s5, s6⟩ := hSw
                    go_simp
                    try with_reducible rfl
                  try simp only [Act.put, List.setIfInBounds_toArray, List.set_cons_zero, List.set_cons_succ]
                  refine wpAnyH_take (i := 13) (oi := { dst := _, op := _, type := _, pos := _, after := _, guard := _ }) (v := ?_) rfl (by kernel_rfl) (by kernel_rfl) (by kernel_rfl) (fun _ _ _ h => h) (Or.inl ⟨by rfl, ?_⟩) hH ?_
                  rotate_left
                  · intro w9 hSw
                    try dsimp only at hSw
                    obtain ⟨s0, s1, s2, s3, s4, s5, s6⟩ := hSw
                    go_simp
                    try with_reducible rfl
                  try simp only [Act.put, List.setIfInBounds_toArray, List.set_cons_zero, List.set_cons_succ]
                  refine wpAnyH_take (i := 14) (oi := { dst := _, op := _, type := _, pos := _, after := _, guard := _ }) (v := ?_) rfl (by kernel_rfl) (by kernel_rfl) (by kernel_rfl) (fun _ _ _ h => h) (Or.inl ⟨by rfl, ?_⟩) hH ?_
                  rotate_left
                  · intro w9 hSw
                    try dsimp only at hSw
                    obtain ⟨s0, s1, s2, s3, s4, s5, s6⟩ := hSw
                    go_simp
                    try with_reducible rfl
                  try simp only [Act.put, List.setIfInBounds_toArray, List.set_cons_zero, List.set_cons_succ]
                  refine wpAnyH_take (i := 15) (oi := { dst := _, op := _, type := _, pos := _, after := _, guard := _ }) (v := ?_) rfl (by kernel_rfl) (by kernel_rfl) (by kernel_rfl) (fun _ _ _ h => h) (Or.inl ⟨by rfl, ?_⟩) hH ?_
                  rotate_left
                  · intro w9 hSw
                    try dsimp only at hSw
                    obtain ⟨s0, s1, s2, s3, s4, s5, s6⟩ := hSw
                    go_simp
                    try with_reducible rfl
                  try simp only [Act.put, List.setIfInBounds_toArray, List.set_cons_zero, List.set_cons_succ]
                  refine wpAnyH_take (i := 16) (oi := { dst := _, op := _, type := _, pos := _, after := _, guard := _ }) (v := ?_) rfl (by kernel_rfl) (by kernel_rfl) (by kernel_rfl) (fun _ _ _ h => h) (Or.inl ⟨by rfl, ?_⟩) hH ?_
                  rotate_left
                  · intro w9 hSw
                    try dsimp only at hSw
                    obtain ⟨s0, s1, s2, s3, s4, s5, s6⟩ := hSw
                    go_simp
                    try with_reducible rfl
                  try simp only [Act.put, List.setIfInBounds_toArray, List.set_cons_zero, List.set_cons_succ]
                  refine wpAnyH_take (i := 17) (oi := { dst := _, op := _, type := _, pos := _, after := _, guard := _ }) (v := ?_) rfl (by kernel_rfl) (by kernel_rfl) (by kernel_rfl) (fun _ _ _ h => h) (Or.inl ⟨by rfl, ?_⟩) hH ?_
                  rotate_left
                  · intro w9 hSw
                    try dsimp only at hSw
                    obtain ⟨s0, s1, s2, s3, s4, s5, s6⟩ := hSw
                    go_simp
                    try with_reducible rfl
                  try simp only [Act.put, List.setIfInBounds_toArray, List.set_cons_zero, List.set_cons_succ]
                  refine wpAnyH_take (i := 18) (oi := { dst := _, op := _, type := _, pos := _, after := _, guard := _ }) (v := ?_) rfl (by kernel_rfl) (by kernel_rfl) (by kernel_rfl) (fun _ _ _ h => h) (Or.inl ⟨by rfl, ?_⟩) hH ?_
                  rotate_left
                  · intro w9 hSw
                    try dsimp only at hSw
                    obtain ⟨s0, s1, s2, s3, s4, s5, s6⟩ := hSw
                    go_simp
                    try with_reducible rfl
                  try simp only [Act.put, List.setIfInBounds_toArray, List.set_cons_zero, List.set_cons_succ]
                  refine wpAnyH_take (i := 19) (oi := { dst := _, op := _, type := _, pos := _, after := _, guard := _ }) (v := ?_) rfl (by kernel_rfl) (by kernel_rfl) (by kernel_rfl) (fun _ _ _ h => h) (Or.inl ⟨by rfl, ?_⟩) hH ?_
                  rotate_left
                  · intro w9 hSw
                    try dsimp only at hSw
                    obtain ⟨s0, s1, s2, s3, s4, s5, s6⟩ := hSw
                    go_simp
                    try with_reducible rfl
                  try simp only [Act.put, List.setIfInBounds_toArray, List.set_cons_zero, List.set_cons_succ]
                  refine wpAnyH_take (i := 20) (oi := { dst := _, op := _, type := _, pos := _, after := _, guard := _ }) (v := ?_) rfl (by kernel_rfl) (by kernel_rfl) (by kernel_rfl) (fun _ _ _ h => h) (Or.inl ⟨by rfl, ?_⟩) hH ?_
                  rotate_left
                  · intro w9 hSw
                    try dsimp only at hSw
                    obtain ⟨s0, s1, s2, s3, s4, s5, s6⟩ := hSw
                    go_simp
                    try with_reducible rfl
                  try simp only [Act.put, List.setIfInBounds_toArray, List.set_cons_zero, List.set_cons_succ]
                  refine wpAnyH_take (i := 21) (oi := { dst := _, op := _, type := _, pos := _, after := _, guard := _ }) (v := ?_) rfl (by kernel_rfl) (by kernel_rfl) (by kernel_rfl) (fun _ _ _ h => h) (Or.inl ⟨by rfl, ?_⟩) hH ?_
                  rotate_left
                  · intro w9 hSw
                    try dsimp only at hSw
                    obtain ⟨s0, s1, s2, s3, s4, s5, s6⟩ := hSw
                    go_simp
                    try with_reducible rfl
                  try simp only [Act.put, List.setIfInBounds_toArray, List.set_cons_zero, List.set_cons_succ]
                  refine wpAnyH_take (i := 22) (oi := { dst := _, op := _, type := _, pos := _, after := _, guard := _ }) (v := ?_) rfl (by kernel_rfl) (by kernel_rfl) (by kernel_rfl) (fun _ _ _ h => h) (Or.inl ⟨by rfl, ?_⟩) hH ?_
                  rotate_left
                  · intro w9 hSw
                    try dsimp only at hSw
                    obtain ⟨s0, s1, s2, s3, s4, s5, s6⟩ := hSw
                    go_simp
                    try with_reducible rfl
                  try simp only [Act.put, List.setIfInBounds_toArray, List.set_cons_zero, List.set_cons_succ]
                  refine wpAnyH_take (i := 23) (oi := { dst := _, op := _, type := _, pos := _, after := _, guard := _ }) (v := ?_) rfl (by kernel_rfl) (by kernel_rfl) (by kernel_rfl) (fun _ _ _ h => h) (Or.inl ⟨by rfl, ?_⟩) hH ?_
                  rotate_left
                  · intro w9 hSw
                    try dsimp only at hSw
                    obtain ⟨s0, s1, s2, s3, s4, s5, s6⟩ := hSw
                    go_simp
                    try with_reducible rfl
                  try simp only [Act.put, List.setIfInBounds_toArray, List.set_cons_zero, List.set_cons_succ]
                  refine wpAnyH_take (i := 24) (oi := { dst := _, op := _, type := _, pos := _, after := _, guard := _ }) (v := ?_) rfl (by kernel_rfl) (by kernel_rfl) (by kernel_rfl) (fun _ _ _ h => h) (Or.inl ⟨by rfl, ?_⟩) hH ?_
                  rotate_left
                  · intro w9 hSw
                    try dsimp only at hSw
                    obtain ⟨s0, s1, s2, s3, s4, s5, s6⟩ := hSw
                    go_simp
                    try with_reducible rfl
                  try simp only [Act.put, List.setIfInBounds_toArray, List.set_cons_zero, List.set_cons_succ]
                  refine wpAnyH_take (i := 25) (oi := { dst := _, op := _, type := _, pos := _, after := _, guard := _ }) (v := ?_) rfl (by kernel_rfl) (by kernel_rfl) (by kernel_rfl) (fun _ _ _ h => h) (Or.inl ⟨by rfl, ?_⟩) hH ?_
                  rotate_left
                  · intro w9 hSw
                    try dsimp only at hSw
                    obtain ⟨s0, s1, s2, s3, s4, s5, s6⟩ := hSw
                    go_simp
                    try with_reducible rfl
                  try simp only [Act.put, List.setIfInBounds_toArray, List.set_cons_zero, List.set_cons_succ]
                  refine wpAnyH_take (i := 26) (oi := { dst := _, op := _, type := _, pos := _, after := _, guard := _ }) (v := ?_) rfl (by kernel_rfl) (by kernel_rfl) (by kernel_rfl) (fun _ _ _ h => h) (Or.inl ⟨by rfl, ?_⟩) hH ?_
                  rotate_left
                  · intro w9 hSw
                    try dsimp only at hSw
                    obtain ⟨s0, s1, s2, s3, s4, s5, s6⟩ := hSw
                    go_simp
                    try with_reducible rfl
                  try simp only [Act.put, List.setIfInBounds_toArray, List.set_cons_zero, List.set_cons_succ]
                  refine wpAnyH_take (i := 27) (oi := { dst := _, op := _, type := _, pos := _, after := _, guard := _ }) (v := ?_) rfl (by kernel_rfl) (by kernel_rfl) (by kernel_rfl) (fun _ _ _ h => h) (Or.inl ⟨by rfl, ?_⟩) hH ?_
                  rotate_left
                  · intro w9 hSw
                    try dsimp only at hSw
                    obtain ⟨s0, s1, s2, s3, s4, s5, s6⟩ := hSw
                    go_simp
                    try with_reducible rfl
                  try simp only [Act.put, List.setIfInBounds_toArray, List.set_cons_zero, List.set_cons_succ]
                  refine wpAnyH_take (i := 28) (oi := { dst := _, op := _, type := _, pos := _, after := _, guard := _ }) (v := ?_) rfl (by kernel_rfl) (by kernel_rfl) (by kernel_rfl) (fun _ _ _ h => h) (Or.inl ⟨by rfl, ?_⟩) hH ?_
                  rotate_left
                  · intro w9 hSw
                    try dsimp only at hSw
                    obtain ⟨s0, s1, s2, s3, s4, s5, s6⟩ := hSw
                    go_simp
                    try with_reducible rfl
                  try simp only [Act.put, List.setIfInBounds_toArray, List.set_cons_zero, List.set_cons_succ]
                  refine wpAnyH_take (i := 29) (oi := { dst := _, op := _, type := _, pos := _, after := _, guard := _ }) (v := ?_) rfl (by kernel_rfl) (by kernel_rfl) (by kernel_rfl) (fun _ _ _ h => h) (Or.inl ⟨by rfl, ?_⟩) hH ?_
                  rotate_left
                  · intro w9 hSw
                    try dsimp only at hSw
                    obtain ⟨s0, s1, s2, s3, s4, s5, s6⟩ := hSw
                    go_simp
                    try with_reducible rfl
                  try simp only [Act.put, List.setIfInBounds_toArray, List.set_cons_zero, List.set_cons_succ]
                  refine wpAnyH_take (i := 30) (oi := { dst := _, op := _, type := _, pos := _, after := _, guard := _ }) (v := ?_) rfl (by kernel_rfl) (by kernel_rfl) (by kernel_rfl) (fun _ _ _ h => h) (Or.inl ⟨by rfl, ?_⟩) hH ?_
                  rotate_left
                  · intro w9 hSw
                    try dsimp only at hSw
                    obtain ⟨s0, s1, s2, s3, s4, s5, s6⟩ := hSw
                    go_simp
                    try with_reducible rfl
                  try simp only [Act.put, List.setIfInBounds_toArray, List.set_cons_zero, List.set_cons_succ]
                  refine wpAnyH_done (by kernel_rfl) ?_ _
                  go_wp2
                  go_roundw
                  case rel => exact ⟨k + 1, hlt3, by go_num, hbn.out⟩
                  case measure => simp [intOf]; omega
                · obtain rfl : k = M.length := by omega
                  go_wp2
                  go_ret
                  exact ⟨rfl, hBfin.out.trans (hb.mono hBfin.out.size)⟩
    · have hq2 : (cd != 0) = true := by simpa using hc0
      clear hc0
      go_wp2
      go_ret
      exact ⟨rfl, hB⟩
theorem FnSequences_own : ownKnob Try.prog.godebug = none := by kernel_rfl
theorem FnSequences_laidOut : laidOutB Try.prog = true := by kernel_rfl
set_option maxRecDepth 100000 in
theorem FnSequences_lifted (os : Os) (started : os.Started) (H : Type) (enc : TypeId × Value → H) :
    ReturnsInHanded {} Try.checked os 3 .any (Rows.fnSequencesSpec.pre6 enc Try.prog Try.f3 Rows.fnSequencesRow.domain false) (Rows.fnSequencesSpec.post enc Try.prog Try.f3 false true false false) := by
  refine returnsInHanded_of_change (C := Try.checked) FnSequences_own started (by kernel_rfl) Try.func3
    (ChangeSpec.witness6 (enc := enc) (C := Try.checked) false ⟨#[], #[.slice none 0 0], []⟩ 8 (by kernel_rfl) (by kernel_rfl) (by kernel_rfl) (by kernel_rfl)) ?_
  intro W base args ds gs before hval0 hW hcnd _
  have hval : ∀ (j : Nat) t v, Try.f3.params[j]? = some t → args[j]? = some v → Value.okWide Try.prog W .any base t v := hval0
  have hW' := hW
  obtain ⟨p, q, hA0, hV, rfl, hfz, hnd⟩ := hW
  have hA : DataW.TrodAll enc Try.prog W 0 (fun _ => true) true Try.f3.params.toList args.toList ds p := hA0
  rw [Try.params3] at hA hval
  obtain ⟨v0, vs0, d0, ds0, p0, q0, hargs, rfl, rfl, h0, r0⟩ := trodAll_cons hA
  obtain ⟨rfl, rfl, rfl⟩ := trodAll_nil r0
  obtain rfl : args = #[v0] := by cases args; simp_all
  obtain ⟨rfl, rfl⟩ := trodVars_none hV
  have k0 := h0
  have lt0 : ∀ x ∈ p0, x.block < W.heap.size := by obtain ⟨m, hm⟩ := k0; exact DataW.trod_lt m _ _ _ hm
  obtain ⟨A0, n0, c0, rfl⟩ := okWide_slice Try.underlying22 (hval 0 22 v0 rfl rfl)
  obtain ⟨fuel0, hf0⟩ := h0
  obtain ⟨l0, a0, o0⟩ := open_bytes Try.underlying22 Try.underlying5 (by kernel_rfl) (show DataW.trod enc Try.prog W 0 (fun _ => true) true fuel0 22 [_] = _ by simpa [Value.cells] using hf0)
  clear hA0 hval0
  refine (law_FnSequences _ _ W a0 o0).mono fun e W' ⟨he, bel⟩ => ?_
  subst he
  exact ⟨_, rfl, _, _, _, [], _, [], hW', trodAll_mk1 (shut_bool Try.underlying4 _), (trodAll_cons_mk (Below.trod FnSequences_laidOut (by kernel_rfl) (of_decide_eq_true (by kernel_rfl)) k0 bel lt0) trodAll_mk0), rfl, bel.frame _, fun h => by cases h⟩
theorem FnSequences_over : Rows.fnSequencesRow.holds Try.pinned (OpenSpec.ofChange Rows.fnSequencesSpec) :=
  OpenClaim.holds_of_wide 3 Try.f3 rfl rfl rfl rfl rfl rfl rfl ⟨rfl, rfl, rfl, rfl, rfl⟩ rfl rfl rfl rfl rfl (by kernel_rfl) Try.func3 (by kernel_rfl)
    (of_decide_eq_true (by kernel_rfl)) (by unfold Func.isWrapper; first | (rw [if_pos (by decide +kernel)]; kernel_rfl) | (rw [if_neg (by decide +kernel)]; exact ⟨rfl, rfl⟩))
    (fun os started H enc _ => FnSequences_lifted os started H enc)
/-- The given statement. -/
theorem FnSequences_proved : Rows.FnSequencesSaid := FnSequences_over
end Go.Proofs.Ytilfjfjoppecgaa
