/-
  The walks of impl.lineForm and impl.readLine.
-/
import Derived.Test.YtcoomogabicfnaaGreatDoorPrtJ
import Derived.Test.YtcoomogabicfnaaGreatDoorReadI
namespace Go.Proofs.YtcoomogabicfnaaGreatDoor
open Go.RowKit
set_option linter.unusedVariables false
set_option linter.unusedSimpArgs false
theorem lit_bne {s t : ByteArray} {l : List UInt8} (h : ¬ s = t) (e : t.toList = l) : (s.toList == l) = false := e ▸ str_bne h
theorem lit_beq {s t : ByteArray} {l : List UInt8} (h : s = t) (e : t.toList = l) : (s.toList == l) = true := by rw [h, e]; simp
theorem lit_station : wStation.toList = [115, 116, 97, 116, 105, 111, 110] := by decide +kernel
theorem lit_move : wMove.toList = [109, 111, 118, 101] := by decide +kernel
theorem lit_buffer : wBuffer.toList = [98, 117, 102, 102, 101, 114] := by decide +kernel
theorem lit_cart : wCart.toList = [99, 97, 114, 116] := by decide +kernel
set_option maxHeartbeats 400000 in
set_option maxRecDepth 100000 in
theorem impl_lineForm (s : ByteArray) (w : World) :
    Calls Tryz.prog 78 #[.string s] w fun e w' => e = .returned (.tuple #[.int .i64 (((formF s).getD (0, 0)).1 : Nat), .int .i64 (((formF s).getD (0, 0)).2 : Nat), .bool (formF s).isSome]) ∧ w = w' := by
  by_cases h1 : s = wStation
  · subst h1
    go_enter Tryz.func78, Tryz.ntmps78
    unfold wStation
    go_wp2
    go_ret3
    exact ⟨by simp [formF, wStation], rfl⟩
  · have q1 := lit_bne h1 lit_station
    by_cases h2 : s = wMove
    · subst h2
      have hf : formF wMove = some (2, 1) := by decide
      rw [hf]
      clear hf q1 h1
      go_enter Tryz.func78, Tryz.ntmps78
      unfold wMove
      go_wp2
      go_ret3
      exact ⟨rfl, rfl⟩
    · have q2 := lit_bne h2 lit_move
      by_cases h3 : s = wBuffer
      · subst h3
        have hf : formF wBuffer = some (2, 1) := by decide
        rw [hf]
        clear hf q1 h1 h2 q2
        go_enter Tryz.func78, Tryz.ntmps78
        unfold wBuffer
        go_wp2
        go_ret3
        exact ⟨rfl, rfl⟩
      · have q3 := lit_bne h3 lit_buffer
        by_cases h4 : s = wCart
        · subst h4
          have hf : formF wCart = some (2, 2) := by decide
          rw [hf]
          clear hf q1 h1 h2 q2 h3 q3
          go_enter Tryz.func78, Tryz.ntmps78
          unfold wCart
          go_wp2
          go_ret3
          exact ⟨rfl, rfl⟩
        · have q4 := lit_bne h4 lit_cart
          have hf : formF s = none := by simp [formF, h1, h2, h3, h4]
          rw [hf]
          clear hf h1 h2 h3 h4
          go_enter Tryz.func78, Tryz.ntmps78
          go_wp2
          go_ret3
          exact ⟨rfl, rfl⟩
theorem Lst.dropS {w : World} {B : Nat} {l : List ByteArray} {b off n c : Nat} (h : Lst strCell 1 w B (.slice (some ⟨b, off, none⟩) n c) l) (k : Nat) (hk : k ≤ l.length) : Lst strCell 1 w B (.slice (some ⟨b, off + k, none⟩) (n - k) (c - k)) (l.drop k) := by
  obtain ⟨h1, h2, A', c', hv, hc, hr⟩ := h
  injection hv with hA hn hcc
  subst hA
  subst hcc
  subst hn
  refine ⟨flat_len strCell 1 (fun _ => rfl) _, by simp; omega, some ⟨b, off + k, none⟩, c - k, by rw [List.length_drop], by simp; omega, fun hp => ?_⟩
  obtain ⟨b', off', hA, hb, hcell⟩ := hr (by simp at hp; omega)
  injection hA with hA
  injection hA with hb1 ho1
  subst hb1
  subst ho1
  refine ⟨b, off + k, rfl, hb, fun j u hu => ?_⟩
  have e : l.flatMap strCell = (l.take k).flatMap strCell ++ (l.drop k).flatMap strCell := by rw [← List.flatMap_append, List.take_append_drop]
  have hlk : ((l.take k).flatMap strCell).length = k := by rw [flat_len strCell 1 (fun _ => rfl)]; simp; omega
  rw [Nat.add_assoc]
  refine hcell (k + j) u ?_
  rw [e, List.getElem?_append_right (by omega), hlk, Nat.add_sub_cancel_left]
  exact hu
theorem Lst.sub {w : World} {B : Nat} {l : List ByteArray} {b off n c : Nat} (h : Lst strCell 1 w B (.slice (some ⟨b, off, none⟩) n c) l) (k m : Nat) (hk : k + m ≤ l.length) : Lst strCell 1 w B (.slice (some ⟨b, off + k, none⟩) m (c - k)) ((l.drop k).take m) :=
  Lst.take (f := strCell) (fun _ => rfl) (h.dropS k (by omega)) m (by rw [List.length_drop]; omega)
theorem formF_few {s : ByteArray} {m n : Nat} (h : formF s = some (m, n)) : (1 ≤ m ∧ m ≤ 2) ∧ (1 ≤ n ∧ n ≤ 2) := by
  unfold formF at h
  split at h
  · cases h; omega
  · split at h
    · cases h; omega
    · split at h
      · cases h; omega
      · split at h
        · cases h; omega
        · cases h
theorem wordsG_none {l : List ByteArray} (h : formF (l.headD ⟨#[]⟩) = none) : wordsF l = none := by unfold wordsF; rw [h]
theorem wordsG_some {l : List ByteArray} {m n : Nat} (h : formF (l.headD ⟨#[]⟩) = some (m, n)) : wordsF l = if l.length = 1 + m + n ∧ ((l.drop 1).take m).all nameOk = true then (digsF (l.drop (1 + m))).map fun x => ((l.drop 1).take m, x) else none := by unfold wordsF; rw [h]
theorem digsF_take {l : List ByteArray} {k : Nat} {x : List Int} (hk : k < l.length) (h : digsF (l.take k) = some x) : digsF (l.take (k + 1)) = (digF l[k]).map (fun v => x ++ [v]) := by
  induction l generalizing k x with
  | nil => simp at hk
  | cons s r ih =>
    cases k with
    | zero =>
      simp [digsF] at h
      subst h
      simp only [List.take_succ_cons, List.take_zero, List.getElem_cons_zero]
      simp only [digsF]
      cases digF s <;> simp
    | succ k =>
      simp only [List.take_succ_cons, digsF, List.getElem_cons_succ] at h ⊢
      cases hs : digF s with
      | none => rw [hs] at h; cases h
      | some v =>
        rw [hs] at h
        simp only [Option.map_eq_some_iff] at h
        obtain ⟨y, hy, rfl⟩ := h
        simp only
        rw [ih (by simpa using hk) hy, Option.map_map]
        rfl
theorem digsF_bad {l : List ByteArray} {k : Nat} (hk : k < l.length) (h : digF l[k] = none) : digsF l = none := by
  induction l generalizing k with
  | nil => simp at hk
  | cons s r ih =>
    cases k with
    | zero => simp only [List.getElem_cons_zero] at h; simp [digsF, h]
    | succ k =>
      simp only [List.getElem_cons_succ] at h
      simp only [digsF]
      rw [ih (by simpa using hk) h]
      cases digF s <;> rfl
theorem digF_none {s : ByteArray} (h : numF s = none ∨ (∃ v, numF s = some v ∧ v < 0) ∨ 10 < s.size) : digF s = none := by
  unfold digF
  rcases h with h | ⟨v, h, hv⟩ | h
  · rw [h]; split <;> rfl
  · rw [h]; split
    · simp; omega
    · rfl
  · rw [if_neg (by omega)]
theorem digF_some {s : ByteArray} {v : Int} (h : numF s = some v) (hv : ¬ v < 0) (hs : ¬ 10 < s.size) : digF s = some v := by
  unfold digF
  rw [if_pos (by omega), h]
  simp; omega
/-- The slice u, if it is any, lies in the block of v. -/
def FromBlk (v u : Value) : Prop := u = .slice none 0 0 ∨ ∃ b o n c o' n' c', v = .slice (some ⟨b, o, none⟩) n c ∧ u = .slice (some ⟨b, o', none⟩) n' c'
set_option maxHeartbeats 8000000 in
set_option maxRecDepth 100000 in
theorem impl_readLine (v : Value) (l : List ByteArray) (w : World) (h0 : Lst strCell 1 w w.heap.size v l) (hne : l ≠ []) (hsz : Hid (∀ s ∈ l, s.size ≤ 100000000)) (hE : Env w) :
    Calls Tryz.prog 63 #[v] w fun r w' => ∃ u q, r = .returned (.tuple #[u, q, .bool (wordsF l).isSome]) ∧ Lst strCell 1 w' w'.heap.size u ((wordsF l).getD ([], [])).1 ∧ Own intCell 1 2 w' w.heap.size q ((wordsF l).getD ([], [])).2 ∧ Below w.heap.size w w' ∧ FromBlk v u := by
  obtain ⟨A, c, rfl⟩ := h0.shape
  have hl := h0.len_le
  have hcap : l.length ≤ c := by obtain ⟨_, _, A', c', hv, hc, _⟩ := h0; injection hv with _ _ hcc; omega
  have hpos : 0 < l.length := List.length_pos_iff.2 hne
  obtain ⟨F, hF⟩ : ∃ F, wordsF l = F := ⟨_, rfl⟩
  rw [hF]
  have hF := Lib.hid hF
  obtain ⟨b, off, hA, hb, c0⟩ := strs_at h0 0 hpos
  have hhd : l.headD ⟨#[]⟩ = l[0] := by cases l with | nil => exact absurd rfl hne | cons x r => rfl
  obtain ⟨x, hx⟩ : ∃ x, l[0] = x := ⟨_, rfl⟩
  rw [hx, Nat.add_zero] at c0
  rw [hx] at hhd
  have i1 : (0 : Int) < (l.length : Int) := by omega
  subst hA
  clear hx
  have hlf := impl_lineForm x w
  cases hf : formF x with
  | none =>
    have hN : Hid (none = F) := (wordsG_none (by rw [hhd]; exact hf)).symm.trans hF.out
    rw [hf] at hlf
    clear hf hhd
    go_enter Tryz.func63, Tryz.ntmps63
    go_wp2_with (go_at_call 78; refine hlf.mono ?_; rintro e w9 ⟨rfl, rfl⟩)
    go_ret3
    exact ⟨_, _, by rw [← hN.out]; rfl, by rw [← hN.out]; exact Lst.nil, by rw [← hN.out]; exact Own.nil, Below.refl _ _, .inl rfl⟩
  | some mn =>
    obtain ⟨m, n⟩ := mn
    have hmn := formF_few hf
    have hws := wordsG_some (l := l) (by rw [hhd]; exact hf)
    rw [hf] at hlf
    clear hf hhd
    by_cases hlen : l.length = 1 + m + n
    · have q0 : ((l.length : Int) != 1 + (m : Int) + (n : Int)) = false := by simp; omega
      have hsub := h0.sub 1 m (by omega)
      have hdr := h0.dropS (1 + m) (by omega)
      have hsl : ((l.drop 1).take m).length = m := by rw [List.length_take, List.length_drop]; omega
      have hdl : (l.drop (1 + m)).length = n := by rw [List.length_drop]; omega
      have hss : Hid (∀ s ∈ (l.drop 1).take m, s.size ≤ 100000000) := fun s hs => hsz.out s (List.mem_of_mem_drop (List.mem_of_mem_take hs))
      have hds : Hid (∀ s ∈ l.drop (1 + m), s.size ≤ 100000000) := fun s hs => hsz.out s (List.mem_of_mem_drop hs)
      have hbadN : Hid (((l.drop 1).take m).all nameOk = false → none = F) := by
        intro h
        rw [← hF.out, hws, if_neg (by rw [h]; simp)]
      have hgoodN : Hid (((l.drop 1).take m).all nameOk = true → (digsF (l.drop (1 + m))).map (fun x => ((l.drop 1).take m, x)) = F) := by
        intro h
        rw [← hF.out, hws, if_pos ⟨hlen, h⟩]
      have hn1 : l.length - (1 + m) = n := by omega
      rw [hn1] at hdr
      obtain ⟨S, hS⟩ : ∃ S, (l.drop 1).take m = S := ⟨_, rfl⟩
      obtain ⟨D, hD⟩ : ∃ D, l.drop (1 + m) = D := ⟨_, rfl⟩
      rw [hS] at hsub hsl hss hbadN hgoodN
      rw [hD] at hdr hdl hds hgoodN
      rw [hlen] at i1 hcap
      clear hS hD hws hF hsz hn1
      subst hsl
      subst hdl
      go_enter Tryz.func63, Tryz.ntmps63
      go_wp2_with (go_at_call 78; refine hlf.mono ?_; rintro e w9 ⟨rfl, rfl⟩)
      simp only [Nat.add_sub_cancel_left]
      go_loopw [9, 39] (fun _ i wr => ∃ k : Nat, k ≤ S.length ∧ i = .int .i64 k ∧ Hid ((S.take k).all nameOk = true) ∧ Below w.heap.size w wr) (fun _ i _ => S.length - (intOf i).toNat)
      case atStart => exact ⟨0, Nat.zero_le _, rfl, rfl, Below.refl _ _⟩
      case round =>
        obtain ⟨k, hk, rfl, hA, hB⟩ := hrel
        by_cases hlt : k < S.length
        · have c1 := (strs_at hsub k hlt)
          obtain ⟨b1, off1, hA1, hb1, c1⟩ := c1
          injection hA1 with hA1
          injection hA1 with hA1 hA2
          subst hA1
          subst hA2
          replace c1 := cell_keep c1 hB
          have hsz1 : Hid (S[k].size ≤ maxLen) := by have := hss.out _ (List.getElem_mem hlt); show _ ≤ _; unfold maxLen; omega
          have i2 : (0 : Int) ≤ (k : Int) := by omega
          have i3 : (k : Int) < (S.length : Int) := by omega
          have i4 : (k : Int) < (S.length : Int) := by omega
          have hst : Hid ((S.take (k + 1)).all nameOk = nameOk S[k]) := by
            show _ = _
            rw [List.take_succ_eq_append_getElem hlt, List.all_append, hA.out]
            simp
          have hal : Hid (nameOk S[k] = false → S.all nameOk = false) := fun h => by
            rw [List.all_eq_false]
            exact ⟨_, List.getElem_mem hlt, by rw [h]; simp⟩
          obtain ⟨y, hy⟩ : ∃ y, S[k] = y := ⟨_, rfl⟩
          rw [hy] at c1 hsz1 hst hal
          clear hy
          cases hnm : nameOk y with
          | false =>
            have hN : Hid (none = F) := hbadN.out (hal.out hnm)
            have hnmH := Lib.hid hnm
            clear hnm
            go_wp2_with (go_at_call 21; refine (impl_IsEventName _ _ hsz1).mono ?_; rintro e w9 ⟨rfl, hB9⟩; rw [hnmH.out])
            go_ret3
            exact ⟨_, _, by rw [← hN.out]; rfl, by rw [← hN.out]; exact Lst.nil, by rw [← hN.out]; exact Own.nil, hB.trans (hB9.mono hB.size), .inl rfl⟩
          | true =>
            have hnmH := Lib.hid hnm
            have hst2 := Lib.hid (hst.out.trans hnm)
            clear hnm
            go_wp2_with (go_at_call 21; refine (impl_IsEventName _ _ hsz1).mono ?_; rintro e w9 ⟨rfl, hB9⟩; rw [hnmH.out])
            go_roundw
            case rel => exact ⟨k + 1, hlt, by go_num, hst2, hB.trans (hB9.mono hB.size)⟩
            case measure => simp [intOf] <;> omega
        · obtain rfl : k = S.length := by omega
          have hG := hgoodN.out (by have := hA.out; rwa [List.take_length] at this)
          have hG := Lib.hid hG
          obtain ⟨wq, rfl⟩ : ∃ wq : World, wq = wr := ⟨_, rfl⟩
          replace hdr := hdr.below hB (Nat.le_refl _)
          have hEq := hE.now hB
          have hBq := hB
          clear hgoodN hbadN hA c0 hb hlf
          go_wp2
          simp only [Nat.add_sub_cancel_left]
          go_loopw [10, 12, 13, 14, 52] (fun u _ _ _ i wr => ∃ (k : Nat) (y : List Int), k ≤ D.length ∧ i = .int .i64 k ∧ Hid (digsF (D.take k) = some y) ∧ Hid (y.length = k) ∧ Own intCell 1 2 wr w.heap.size u y ∧ Below w.heap.size wq wr) (fun _ _ _ _ i _ => D.length - (intOf i).toNat)
          case atStart => exact ⟨0, [], Nat.zero_le _, rfl, rfl, rfl, Own.nil, Below.refl _ _ |>.mono hBq.size⟩
          case round =>
            obtain ⟨k, y, hk, rfl, hR, hy, hO, hBr⟩ := hrel
            have hB := hBq.trans hBr
            obtain ⟨OA, oc, rfl⟩ := own_shape_n hO hy.out
            by_cases hlt : k < D.length
            · obtain ⟨b1, off1, hA1, hb1, c1⟩ := strs_at hdr k hlt
              injection hA1 with hA1
              injection hA1 with hA1 hA2
              subst hA1
              subst hA2
              replace c1 := (hBr.cell (p := ⟨b, off + (1 + S.length) + k, none⟩) hb1).trans c1
              have hszy := hds.out _ (List.getElem_mem hlt)
              have i2 : (0 : Int) ≤ (k : Int) := by omega
              have i3 : (k : Int) < (D.length : Int) := by omega
              have hnx := Lib.hid (fun z (h : digF D[k] = some z) => (digsF_take hlt hR.out).trans (by rw [h]; rfl : _ = some (y ++ [z])))
              have hbd : Hid (digF D[k] = none → none = F) := fun h => by
                rw [← hG.out, digsF_bad hlt h]
                rfl
              obtain ⟨z, hz⟩ : ∃ z, D[k] = z := ⟨_, rfl⟩
              rw [hz] at c1 hszy hnx hbd
              have hdn := Lib.hid (fun h => hbd.out (digF_none h))
              have hds2 := Lib.hid (fun v h1 h2 h3 => hnx.out v (digF_some h1 h2 h3))
              have hws := hB.size
              clear hz hbd hnx
              go_wp2_with fail
              refine (impl_readNumber z _ (by omega) (hE.now hB)).mono ?_
              rintro e w3 ⟨rfl, hB3⟩
              replace hO := hO.now hB3
              replace hB := hB.trans (hB3.mono hws)
              replace hBr := hBr.trans (hB3.mono (Nat.le_trans hBq.size hBr.size))
              clear hws c1
              have hws := hB.size
              cases hG2 : numF z with
              | none =>
                have hN := Lib.hid (hdn.out (.inl hG2))
                clear hG2
                go_wp2
                go_ret3
                exact ⟨_, _, by rw [← hN.out]; rfl, by rw [← hN.out]; exact Lst.nil, by rw [← hN.out]; exact Own.nil, hB, .inl rfl⟩
              | some n =>
                by_cases hn0 : n < 0
                · have hN := Lib.hid (hdn.out (.inr (.inl ⟨n, hG2, hn0⟩)))
                  clear hG2
                  go_wp2
                  go_ret3
                  exact ⟨_, _, by rw [← hN.out]; rfl, by rw [← hN.out]; exact Lst.nil, by rw [← hN.out]; exact Own.nil, hB, .inl rfl⟩
                · by_cases hn1 : 10 < z.size
                  · have hN := Lib.hid (hdn.out (.inr (.inr hn1)))
                    have hn2 : (10 : Int) < (z.size : Int) := by omega
                    clear hG2
                    go_wp2
                    go_ret3
                    exact ⟨_, _, by rw [← hN.out]; rfl, by rw [← hN.out]; exact Lst.nil, by rw [← hN.out]; exact Own.nil, hB, .inl rfl⟩
                  · have hR2 := Lib.hid (hds2.out n hG2 (by omega) (by omega))
                    have hn2 : ¬ (10 : Int) < (z.size : Int) := by omega
                    have hyl := hy.out
                    clear hG2
                    go_wp2_with (at_builtin; refine wpList_append_lst rfl _ _ 54 rfl intCell 1 intCell_one (by omega) w.heap.size 2 _ 8 Tryz.underlying54 info_i64 rfl _ y rfl (hO.alloc _) _ _ _ _ [n] rfl (lst_new1 intCell 1 intCell_len _ _ _ _ rfl _ (by simp)) (by simp; omega) (by omega) (Nat.le_trans hws (by simp)) ?_; intro v' w9 hO1 hG1 hD1)
                    have hB2 := (hB.alloc hws (.cells #[.int .i64 n] 2)).grown hG1 (Nat.le_trans hws (by simp)) (fun j hj => (hO.lt j hj).1)
                    have hB3 := (hBr.alloc hws (.cells #[.int .i64 n] 2)).grown hG1 (Nat.le_trans hws (by simp)) (fun j hj => (hO.lt j hj).1)
                    go_roundw
                    case rel => exact ⟨k + 1, y ++ [n], hlt, by go_num, hR2, by show _ = _; simp; omega, hO1, hB3⟩
                    case measure => simp [intOf] <;> omega
            · obtain rfl : k = D.length := by omega
              have hR2 : Hid (some (S, y) = F) := by
                have h := hR.out
                rw [List.take_length] at h
                rw [h] at hG
                exact hG.out
              replace hsub := hsub.below hB (Nat.le_refl _)
              go_wp2
              simp only [Nat.add_sub_cancel_left]
              go_ret3
              exact ⟨_, _, by rw [← hR2.out]; rfl, by rw [← hR2.out]; exact hsub.more hB.size, by rw [← hR2.out]; exact hO, hB, .inr ⟨_, _, _, _, _, _, _, rfl, rfl⟩⟩
    · have q0 : ((l.length : Int) != 1 + (m : Int) + (n : Int)) = true := by simp; omega
      have hN : Hid (none = F) := by
        show _ = _
        rw [← hF.out, hws, if_neg (by intro h; exact hlen h.1)]
      go_enter Tryz.func63, Tryz.ntmps63
      go_wp2_with (go_at_call 78; refine hlf.mono ?_; rintro e w9 ⟨rfl, rfl⟩)
      go_ret3
      exact ⟨_, _, by rw [← hN.out]; rfl, by rw [← hN.out]; exact Lst.nil, by rw [← hN.out]; exact Own.nil, Below.refl _ _, .inl rfl⟩
end Go.Proofs.YtcoomogabicfnaaGreatDoor
