/-
  The walks of the reference's l18Shape, l18Words, l18Line and CompileText.
-/
import Derived.Test.YtcoomogabicfnaaGreatDoorLinI
import Derived.Test.YtcoomogabicfnaaGreatDoorSplit
namespace Go.Proofs.YtcoomogabicfnaaGreatDoor
open Go.RowKit
set_option linter.unusedVariables false
set_option linter.unusedSimpArgs false
set_option maxHeartbeats 400000 in
set_option maxRecDepth 100000 in
theorem spec_l18Shape (s : ByteArray) (w : World) :
    Calls Tryz.prog 83 #[.string s] w fun e w' => e = .returned (.tuple #[.int .i64 (((formF s).getD (0, 0)).1 : Nat), .int .i64 (((formF s).getD (0, 0)).2 : Nat), .bool (formF s).isSome]) ∧ w = w' := by
  by_cases h1 : s = wStation
  · subst h1
    go_enter Tryz.func83, Tryz.ntmps83
    unfold wStation
    go_wp2
    go_ret3
    exact ⟨by simp [formF, wStation], rfl⟩
  · have q1 := lit_bne h1 lit_station
    by_cases h2 : s = wMove
    · subst h2
      have hf : formF wMove = some (2, 1) := by decide
      rw [hf]
      clear hf q1 h1
      go_enter Tryz.func83, Tryz.ntmps83
      unfold wMove
      go_wp2
      go_ret3
      exact ⟨rfl, rfl⟩
    · have q2 := lit_bne h2 lit_move
      by_cases h3 : s = wBuffer
      · subst h3
        have hf : formF wBuffer = some (2, 1) := by decide
        rw [hf]
        clear hf q1 h1 h2 q2
        go_enter Tryz.func83, Tryz.ntmps83
        unfold wBuffer
        go_wp2
        go_ret3
        exact ⟨rfl, rfl⟩
      · have q3 := lit_bne h3 lit_buffer
        by_cases h4 : s = wCart
        · subst h4
          have hf : formF wCart = some (2, 2) := by decide
          rw [hf]
          clear hf q1 h1 h2 q2 h3 q3
          go_enter Tryz.func83, Tryz.ntmps83
          unfold wCart
          go_wp2
          go_ret3
          exact ⟨rfl, rfl⟩
        · have q4 := lit_bne h4 lit_cart
          have hf : formF s = none := by simp [formF, h1, h2, h3, h4]
          rw [hf]
          clear hf h1 h2 h3 h4
          go_enter Tryz.func83, Tryz.ntmps83
          go_wp2
          go_ret3
          exact ⟨rfl, rfl⟩
theorem digsF_step {D : List ByteArray} {k : Nat} (hk : k < D.length) : digsF (D.take (k + 1)) = (digsF (D.take k)).bind fun x => (digF D[k]).map fun v => x ++ [v] := by
  cases h : digsF (D.take k) with
  | some x => rw [digsF_take hk h]; rfl
  | none =>
    refine ((?_ : digsF (D.take (k + 1)) = none)).trans rfl
    have key : ∀ (l : List ByteArray) (k : Nat), digsF (l.take k) = none → digsF (l.take (k + 1)) = none := by
      intro l
      induction l with
      | nil => intro k h; simp [digsF] at h
      | cons a r ih =>
        intro k h
        cases k with
        | zero => simp [digsF] at h
        | succ k =>
          simp only [List.take_succ_cons, digsF] at h ⊢
          cases ha : digF a with
          | none => rfl
          | some v =>
            rw [ha] at h
            simp only [Option.map_eq_none_iff] at h ⊢
            exact ih k h
    exact key D k h
set_option maxHeartbeats 8000000 in
set_option maxRecDepth 100000 in
theorem spec_l18Words (s : ByteArray) (w : World) (hs : s.size ≤ 100000000) :
    Calls Tryz.prog 70 #[.string s] w fun r w' => ∃ u q, r = .returned (.tuple #[u, q, .bool (wordsF (splitF 32 s)).isSome]) ∧ (∀ ns xs, wordsF (splitF 32 s) = some (ns, xs) → Lst strCell 1 w' w'.heap.size u ((splitF 32 s).headD ⟨#[]⟩ :: ns) ∧ Own intCell 1 2 w' w.heap.size q xs ∧ ∀ A n c, u = .slice (some A) n c → w.heap.size ≤ A.block) ∧ Below w.heap.size w w' := by
  have hWs := split_size 32 s
  have hWn := splitF_ne 32 s
  obtain ⟨F, hF⟩ : ∃ F, wordsF (splitF 32 s) = F := ⟨_, rfl⟩
  obtain ⟨x, hhd⟩ : ∃ x, (splitF 32 s).headD ⟨#[]⟩ = x := ⟨_, rfl⟩
  rw [hF, hhd]
  have hF := Lib.hid hF
  have hhdH := Lib.hid hhd
  clear hhd
  go_enter Tryz.func70, Tryz.ntmps70
  go_wp2_with fail
  refine (spec_l01Split s 32 32 (by decide) _ hs).mono ?_
  rintro e w1 ⟨uw, rfl, hW, hB1⟩
  generalize splitF 32 s = W at *
  have hpos : 0 < W.length := List.length_pos_iff.2 hWn
  obtain ⟨WA, wc, rfl⟩ := hW.shape
  have hcap : W.length ≤ wc := by obtain ⟨_, _, A', c', hv, hc, _⟩ := hW.lst; injection hv with _ _ hcc; omega
  obtain ⟨wb, wo, hWA, hwb, c0⟩ := strs_at hW.lst 0 hpos
  have hhd := hhdH.out
  have hx : W[0] = x := by rw [← hhd]; cases W with | nil => exact absurd rfl hWn | cons x r => rfl
  rw [hx, Nat.add_zero] at c0
  have i1 : (0 : Int) < (W.length : Int) := by omega
  subst hWA
  have hwl : Hid (w.heap.size ≤ wb) := by
    rcases hW.2 with ⟨h, _⟩ | ⟨g, cap, cur, h, hb, _⟩
    · cases h
    · injection h with h
      injection h with h
      injection h with h
      exact h ▸ hb
  have hlf := spec_l18Shape x w1
  cases hf : formF x with
  | none =>
    have hN : Hid (none = F) := (wordsG_none (by rw [hhd]; exact hf)).symm.trans hF.out
    rw [hf] at hlf
    clear hf hhd hx
    go_wp2_with (go_at_call 83; refine hlf.mono ?_; rintro e w9 ⟨rfl, rfl⟩)
    go_ret3
    exact ⟨_, _, by rw [← hN.out]; rfl, (fun ns xs h => by rw [← hN.out] at h; cases h), hB1⟩
  | some mn =>
    obtain ⟨m, n⟩ := mn
    have hmn := formF_few hf
    have hws := wordsG_some (l := W) (by rw [hhd]; exact hf)
    rw [hf] at hlf
    clear hf
    by_cases hlen : W.length = 1 + m + n
    · have q0 : ((W.length : Int) != 1 + (m : Int) + (n : Int)) = false := by simp; omega
      have hsl : ((W.drop 1).take m).length = m := by rw [List.length_take, List.length_drop]; omega
      have hdl : (W.drop (1 + m)).length = n := by rw [List.length_drop]; omega
      have hsz : Hid (∀ i (h : i < W.length), W[i].size ≤ maxLen) := fun i h => by have := hWs _ (List.getElem_mem h); show _ ≤ _; unfold maxLen; omega
      have hFH := Lib.hid hF.out
      clear hhd hF
      go_wp2_with (go_at_call 83; refine hlf.mono ?_; rintro e w9 ⟨rfl, rfl⟩)
      obtain ⟨AN, hAN⟩ : ∃ AN, ((W.drop 1).take m).all nameOk = AN := ⟨_, rfl⟩
      go_loopw [8, 9] (fun okv i wr => ∃ k : Nat, k ≤ m ∧ i = .int .i64 ((k : Int) + 1) ∧ okv = .bool (((W.drop 1).take k).all nameOk) ∧ Below w1.heap.size w1 wr) (fun _ i _ => m + 1 - (intOf i).toNat)
      case atStart => exact ⟨0, Nat.zero_le _, rfl, rfl, Below.refl _ _⟩
      case round =>
        obtain ⟨k, hk, rfl, rfl, hB⟩ := hrel
        by_cases hlt : k < m
        · obtain ⟨b1, o1, hA1, hb1, cc⟩ := strs_at hW.lst (k + 1) (by omega)
          injection hA1 with hA1
          injection hA1 with hA1 hA2
          subst hA1
          subst hA2
          replace cc := cell_keep cc hB
          have hsy := hsz.out (k + 1) (by omega)
          have hst : ((W.drop 1).take (k + 1)).all nameOk = (((W.drop 1).take k).all nameOk && nameOk (W[k + 1]'(by omega))) := by
            rw [List.take_succ_eq_append_getElem (by rw [List.length_drop]; omega), List.all_append]
            simp [Nat.add_comm]
          have hstH := Lib.hid hst
          obtain ⟨y, hy⟩ : ∃ y, W[k + 1]'(by omega) = y := ⟨_, rfl⟩
          rw [hy] at cc hsy
          have hyH := Lib.hid hy
          have hsyH := Lib.hid hsy
          clear hst hy
          obtain ⟨Bk, hBk⟩ : ∃ Bk, ((W.drop 1).take k).all nameOk = Bk := ⟨_, rfl⟩
          rw [hBk]
          have hBkH := Lib.hid hBk
          clear hBk
          have i2 : (0 : Int) ≤ (k : Int) + 1 := by omega
          have i3 : (k : Int) + 1 < (W.length : Int) := by omega
          have i4 : (k : Int) + 1 ≤ (m : Int) := by omega
          cases Bk with
          | false =>
            have hnx : Hid (false = ((W.drop 1).take (k + 1)).all nameOk) := by show _ = _; rw [hstH.out, hBkH.out]; rfl
            go_wp2
            go_roundw
            case rel => exact ⟨k + 1, hlt, by go_num, by rw [← hnx.out], hB⟩
            case measure => simp [intOf] <;> omega
          | true =>
            have hnx : Hid (nameOk y = ((W.drop 1).take (k + 1)).all nameOk) := by show _ = _; rw [hstH.out, hBkH.out, hyH.out]; rfl
            go_wp2_with (go_at_call 55; refine (spec_IsEventName _ _ hsyH).mono ?_; rintro e w9 ⟨rfl, hB9⟩)
            go_roundw
            case rel => exact ⟨k + 1, hlt, by go_num, by rw [← hnx.out], hB.trans (hB9.mono hB.size)⟩
            case measure => simp [intOf] <;> omega
        · obtain rfl : k = m := by omega
          rw [hAN]
          have hANH := Lib.hid hAN
          have hws2 : Hid ((if AN = true then (digsF (W.drop (1 + k))).map (fun x => ((W.drop 1).take k, x)) else none) = F) := by
            show _ = _
            rw [← hFH.out, hws]
            by_cases ha : AN = true
            · rw [if_pos ha, if_pos ⟨hlen, by rw [hAN]; exact ha⟩]
            · rw [if_neg ha, if_neg (fun h => ha (by rw [← hAN]; exact h.2))]
          have hdp : Hid (∀ j (h : j < n), (W.drop (1 + k))[j]'(by omega) = W[1 + k + j]'(by omega)) := fun j h => by rw [List.getElem_drop]
          have htk : Hid (W.take (1 + k) = x :: (W.drop 1).take k) := by
            show _ = _
            cases W with
            | nil => exact absurd rfl hWn
            | cons a r => simp at hx; subst hx; rw [Nat.add_comm]; simp
          obtain ⟨D, hD⟩ : ∃ D, W.drop (1 + k) = D := ⟨_, rfl⟩
          have hDH := Lib.hid hD
          rw [hD] at hdl hws2
          obtain ⟨wq, rfl⟩ : ∃ wq : World, wq = wr := ⟨_, rfl⟩
          replace hW := hW.now hB
          have hBq := hB1.trans (hB.mono hB1.size)
          have hqs := hBq.size
          clear hws hAN hD hlf hx
          go_wp2
          go_loopw [8, 10, 11, 12, 13] (fun okv u i _ _ wr => ∃ (j : Nat) (M : List Int), j ≤ n ∧ i = .int .i64 (1 + (k : Int) + (j : Int)) ∧ okv = .bool (AN && (digsF (D.take j)).isSome) ∧ Hid (M.length = j) ∧ Hid (∀ xs, digsF (D.take j) = some xs → M = xs) ∧ Own intCell 1 2 wr wq.heap.size u M ∧ Below wq.heap.size wq wr) (fun _ _ i _ _ _ => 1 + k + n - (intOf i).toNat)
          case atStart => exact ⟨0, [], Nat.zero_le _, by simp, by simp [digsF], rfl, fun xs h => by simp [digsF] at h; exact h.symm ▸ rfl, own_new0 _ _ _ _ _ (Nat.le_refl _), (Below.refl _ _).alloc (Nat.le_refl _) _⟩
          case round =>
            obtain ⟨j, M, hj, rfl, rfl, hM, hX, hO, hB⟩ := hrel
            obtain ⟨MA, mc, rfl⟩ := own_shape_n hO hM.out
            by_cases hlt : j < n
            · obtain ⟨b1, o1, hA1, hb1, cc⟩ := strs_at hW.lst (1 + k + j) (by omega)
              injection hA1 with hA1
              injection hA1 with hA1 hA2
              subst hA1
              subst hA2
              replace cc := cell_keep cc hB
              have hstep := digsF_step (D := D) (k := j) (by omega)
              have hDj : D[j]'(by omega) = W[1 + k + j]'(by omega) := by
                have := hdp.out j hlt
                simp only [hDH.out] at this
                exact this
              rw [hDj] at hstep
              obtain ⟨y, hy⟩ : ∃ y, W[1 + k + j]'(by omega) = y := ⟨_, rfl⟩
              rw [hy] at cc hstep
              have i2 : (0 : Int) ≤ 1 + (k : Int) + (j : Int) := by omega
              have i3 : 1 + (k : Int) + (j : Int) < (W.length : Int) := by omega
              have hdg := spec_l01Digits y wr
              obtain ⟨P, hP⟩ : ∃ P, digsF (D.take j) = P := ⟨_, rfl⟩
              rw [hP] at hstep hX
              rw [hP]
              obtain ⟨Q, hQ⟩ : ∃ Q, digF y = Q := ⟨_, rfl⟩
              rw [hQ] at hstep hdg
              have hst := Lib.hid hstep
              obtain ⟨Bk, hBk⟩ : ∃ Bk, (AN && P.isSome) = Bk := ⟨_, rfl⟩
              rw [hBk]
              have hnx : Hid ((AN && (digsF (D.take (j + 1))).isSome) = (Bk && Q.isSome)) := by
                show _ = _
                rw [← hBk, hst.out]
                cases P <;> cases Q <;> simp
              have hlM := hM.out
              clear hstep hP hQ hDj hy hBk
              have hws := (hBq.trans (hB.mono hqs)).size
              go_wp2_with fail
              refine hdg.mono ?_
              clear hdg
              rintro e w5 ⟨v5, rfl, hv5, hv6, hv7, hB5⟩
              replace hO := hO.now hB5
              replace hB := hB.trans (hB5.mono hB.size)
              have hws5 := (hBq.trans (hB.mono hqs)).size
              have hX2 : Hid (∀ xs, digsF (D.take (j + 1)) = some xs → M ++ [v5] = xs) := by
                intro xs h
                rw [hst.out] at h
                cases P with
                | none => cases h
                | some p =>
                  cases Q with
                  | none => cases h
                  | some q =>
                    obtain rfl := hX.out p rfl
                    obtain rfl := hv5 q rfl
                    injection h
              clear hv5 cc
              have hb5 := hB.size
              cases Bk <;> (go_wp2_with (at_builtin; refine wpList_append_lst rfl _ _ 54 rfl intCell 1 intCell_one (by omega) wq.heap.size 2 _ 8 Tryz.underlying54 info_i64 rfl _ M rfl (hO.alloc _) _ _ _ _ [v5] rfl (lst_new1 intCell 1 intCell_len _ _ _ _ rfl _ (by simp)) (by simp; omega) (by omega) (Nat.le_trans hb5 (by simp)) ?_; intro v' w9 hO1 hG1 hD1)) <;> go_roundw
              all_goals first
                | exact ⟨j + 1, M ++ [v5], hlt, by go_num, by rw [hnx.out]; simp, by show _ = _; simp; omega, hX2, hO1, (hB.alloc hb5 (.cells #[.int .i64 v5] 2)).grown hG1 (Nat.le_trans hb5 (by simp)) (fun q hq => (hO.lt q hq).1)⟩
                | (simp [intOf] <;> omega)
            · obtain rfl : j = n := by omega
              have hfin : Hid ((AN && (digsF D).isSome) = F.isSome) := by
                show _ = _
                rw [← hws2.out]
                cases AN <;> cases digsF D <;> simp
              rw [List.take_of_length_le (by omega)] at hX ⊢
              have hT := Lst.take (f := strCell) (fun _ => rfl) (hW.now hB).lst (1 + k) (by omega)
              rw [htk.out] at hT
              have i2 : ¬ 1 + (k : Int) + (j : Int) < (W.length : Int) := by omega
              have hcap2 : 1 + k ≤ wc := by omega
              go_wp2
              go_ret3
              refine ⟨_, _, by rw [hfin.out]; rfl, ?_, hBq.trans (hB.mono hqs)⟩
              intro ns xs h
              rw [← hws2.out] at h
              cases AN with
              | false => cases h
              | true =>
                rw [if_pos rfl, Option.map_eq_some_iff] at h
                obtain ⟨ys, h1, h2⟩ := h
                injection h2 with h2 h3
                subst h2
                subst h3
                obtain rfl := hX.out ys h1
                exact ⟨hT, hO.rebase hqs, fun A n c h => by injection h with h; injection h with h; subst h; exact hwl.out⟩
    · have q0 : ((W.length : Int) != 1 + (m : Int) + (n : Int)) = true := by simp; omega
      have hN : Hid (none = F) := by
        show _ = _
        rw [← hF.out, hws, if_neg (by intro h; exact hlen h.1)]
      clear hhd hx hws
      go_wp2_with (go_at_call 83; refine hlf.mono ?_; rintro e w9 ⟨rfl, rfl⟩)
      go_ret3
      exact ⟨_, _, by rw [← hN.out]; rfl, (fun ns xs h => by rw [← hN.out] at h; cases h), hB1⟩
end Go.Proofs.YtcoomogabicfnaaGreatDoor
