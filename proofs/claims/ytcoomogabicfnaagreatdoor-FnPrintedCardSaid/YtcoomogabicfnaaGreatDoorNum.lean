/-
  Numbers read: the program's readNumber, the reference's l01Digits and l01Signed.
-/
import Derived.Test.YtcoomogabicfnaaGreatDoorTxtN
import Derived.Test.YtcoomogabicfnaaGreatDoorEnv
namespace Go.Proofs.YtcoomogabicfnaaGreatDoor
open Go.RowKit
set_option linter.unusedVariables false
set_option linter.unusedSimpArgs false
theorem parse_num (s : ByteArray) (w : World) (hs : s.size ≤ 281474976710656) (hE : Env w) :
    Calls Tryz.prog 91 #[.string s, .int .i64 10, .int .i64 64] w fun e w' => Below w.heap.size w w' ∧ ((∃ v, Lib.parseIntB 64 s.data.toList = .ok v ∧ e = .returned (.tuple #[.int .i64 v, .nilIface])) ∨ ((∀ v, Lib.parseIntB 64 s.data.toList ≠ .ok v) ∧ ∃ (v : Int) (N : Nat), e = .returned (.tuple #[.int .i64 v, .iface 166 (.pointer (some ⟨N, 0, none⟩))]))) := by
  cases h : Lib.parseIntB 64 s.data.toList
  · rename_i v
    refine (Any.strconv_ParseInt_10_at64_ok Tryz.lays174 s (by omega) v h w).mono ?_
    rintro e w' ⟨rfl, hw⟩
    refine ⟨?_, Or.inl ⟨v, rfl, rfl⟩⟩
    rcases hw with rfl | ⟨t, rfl⟩
    · exact Below.refl _ _
    · exact Lib.bytesWorld_below _ _ _
  · obtain ⟨ev, h1, h2⟩ := hE.syn
    refine (Any.strconv_ParseInt_10_at64_syntax Tryz.lays174 s hs h ev w h1 h2).mono ?_
    rintro e w' ⟨N, rfl, _, _, hB⟩
    exact ⟨hB, Or.inr ⟨fun v hv => (by cases hv), _, N, rfl⟩⟩
  · obtain ⟨ev, h1, h2⟩ := hE.rng
    refine (Any.strconv_ParseInt_10_at64_range Tryz.lays174 s hs h ev w h1 h2).mono ?_
    rintro e w' ⟨N, rfl, _, _, hB⟩
    exact ⟨hB, Or.inr ⟨fun v hv => (by cases hv), _, N, rfl⟩⟩
theorem numF_ok {s : ByteArray} {v : Int} (h : Lib.parseIntB 64 s.data.toList = .ok v) : numF s = if decB v = s then some v else none := by
  unfold numF
  rw [h]
theorem numF_bad {s : ByteArray} (h : ∀ v, Lib.parseIntB 64 s.data.toList ≠ .ok v) : numF s = none := by
  unfold numF
  split
  · rename_i v hv
    exact absurd hv (h v)
  · rfl
set_option maxHeartbeats 4000000 in
set_option maxRecDepth 100000 in
theorem impl_readNumber (s : ByteArray) (w : World) (hs : s.size ≤ 281474976710656) (hE : Env w) :
    Calls Tryz.prog 79 #[.string s] w fun e w' => e = .returned (.tuple #[.int .i64 ((numF s).getD 0), .bool (numF s).isSome]) ∧ Below w.heap.size w w' := by
  have hp := parse_num s w hs hE
  obtain ⟨F, hF⟩ : ∃ F, numF s = F := ⟨_, rfl⟩
  rw [hF]
  have hF := Lib.hid hF
  go_enter Tryz.func79, Tryz.ntmps79
  go_wp2_with fail
  refine hp.mono ?_
  clear hp
  rintro e w1 ⟨hB, ⟨v, hv, rfl⟩ | ⟨hv, v, N, rfl⟩⟩
  · have hb := Lib.parseIntB_bounds hv
    have e63 : (2 : Nat) ^ (64 - 1) = 9223372036854775808 := by decide
    rw [e63] at hb
    by_cases hq : decB v = s
    · have hF2 : Hid (some v = F) := by
        show _ = _
        rw [← hF.out, numF_ok hv, if_pos hq]
      have hq2 : ((decB v).toList == s.toList) = true := str_beq hq
      have hD := impl_decimal v w1 (hE.tab.now hB) (by omega) (by omega)
      clear hv hb hq e63
      go_wp2_with fail
      refine hD.mono ?_
      rintro e w2 ⟨rfl, hB2⟩
      go_wp2
      go_ret2
      exact ⟨by rw [← hF2.out]; rfl, hB.trans (hB2.mono hB.size)⟩
    · have hF2 : Hid (none = F) := by
        show _ = _
        rw [← hF.out, numF_ok hv, if_neg hq]
      have hq2 : ((decB v).toList == s.toList) = false := str_bne hq
      have hD := impl_decimal v w1 (hE.tab.now hB) (by omega) (by omega)
      clear hv hb hq e63
      go_wp2_with fail
      refine hD.mono ?_
      rintro e w2 ⟨rfl, hB2⟩
      go_wp2
      go_ret2
      exact ⟨by rw [← hF2.out]; rfl, hB.trans (hB2.mono hB.size)⟩
  · have hF2 : Hid (none = F) := (numF_bad hv).symm.trans hF.out
    clear hv
    go_wp2
    go_ret2
    exact ⟨by rw [← hF2.out]; rfl, hB⟩
theorem valD_take {l : List UInt8} {k : Nat} (h : k < l.length) : valD 0 (l.take (k + 1)) = valD 0 (l.take k) * 10 + (l[k].toNat - 48) := by
  rw [List.take_succ_eq_append_getElem h, valD_snoc]
set_option maxHeartbeats 4000000 in
set_option maxRecDepth 100000 in
theorem spec_l01Digits (s : ByteArray) (w : World) :
    Calls Tryz.prog 84 #[.string s] w fun e w' => ∃ n : Int, e = .returned (.tuple #[.int .i64 n, .bool (digF s).isSome]) ∧ (∀ v, digF s = some v → n = v) ∧ -9999999999 ≤ n ∧ n ≤ 9999999999 ∧ Below w.heap.size w w' := by
  obtain ⟨F, hF⟩ : ∃ F, digF s = F := ⟨_, rfl⟩
  rw [hF]
  have hF := Lib.hid hF
  by_cases h0 : s.size = 0
  · have hN : Hid (none = F) := (digF_nil h0).symm.trans hF.out
    have i0 : (s.size : Int) < 1 := by omega
    clear h0
    go_enter Tryz.func84, Tryz.ntmps84
    go_wp2
    go_ret2
    exact ⟨0, by rw [← hN.out]; rfl, fun v hv => (by rw [← hN.out] at hv; cases hv), by decide, by decide, Below.refl _ _⟩
  · by_cases h10 : s.size ≤ 10
    · have i0 : ¬ (s.size : Int) < 1 := by omega
      have i1 : ¬ (10 : Int) < (s.size : Int) := by omega
      have hsz : Hid (s.data.toList.length = s.size) := (bsize s).symm
      clear h0
      go_enter Tryz.func84, Tryz.ntmps84
      go_wp2
      go_loopw [4, 5] (fun n i wr => ∃ k : Nat, k ≤ s.size ∧ i = .int .i64 k ∧ n = .int .i64 (valD 0 (s.data.toList.take k) : Nat) ∧ Hid (∀ c ∈ s.data.toList.take k, isDig c = true) ∧ wr = w) (fun _ i _ => s.size - (intOf i).toNat)
      case atStart => exact ⟨0, Nat.zero_le _, rfl, by simp [valD_nil], fun c hc => absurd hc (by simp), rfl⟩
      case round =>
        obtain ⟨k, hk, rfl, rfl, hD, rfl⟩ := hrel
        have hvl : valD 0 (s.data.toList.take k) ≤ 9999999999 := by
          have h1 := valD_lt _ hD.out 0
          have h2 : 10 ^ (s.data.toList.take k).length ≤ 10 ^ 10 := Nat.pow_le_pow_right (by omega) (by simp; omega)
          omega
        by_cases hlt : k < s.size
        · have hl : k < s.data.toList.length := by simpa using hlt
          have hg : s.data.toList[k] = s[k] := by simp [ByteArray.getElem_eq_getElem_data]
          by_cases h1 : (s[k].toNat : Int) < 48
          · have hN : Hid (none = F) := by
              show _ = _
              rw [← hF.out, digF_other ⟨s[k], by rw [← hg]; exact List.getElem_mem hl, by simp [isDig]; omega⟩]
            clear hvl
            go_wp2
            go_ret2
            exact ⟨0, by rw [← hN.out]; rfl, fun v hv => (by rw [← hN.out] at hv; cases hv), by decide, by decide, Below.refl _ _⟩
          · by_cases h2 : 57 < (s[k].toNat : Int)
            · have hN : Hid (none = F) := by
                show _ = _
                rw [← hF.out, digF_other ⟨s[k], by rw [← hg]; exact List.getElem_mem hl, by simp [isDig]; omega⟩]
              clear hvl
              go_wp2
              go_ret2
              exact ⟨0, by rw [← hN.out]; rfl, fun v hv => (by rw [← hN.out] at hv; cases hv), by decide, by decide, Below.refl _ _⟩
            · have hD2 : Hid (∀ c ∈ s.data.toList.take (k + 1), isDig c = true) := by
                intro c hc
                rw [take_succ_get _ _ hl] at hc
                rcases List.mem_append.1 hc with hc | hc
                · exact hD.out c hc
                · rw [List.mem_singleton.1 hc, hg]
                  simp [isDig]
                  omega
              have hv2 : Hid (valD 0 (s.data.toList.take (k + 1)) = valD 0 (s.data.toList.take k) * 10 + (s[k].toNat - 48)) := by
                show _ = _
                rw [valD_take hl, hg]
              generalize valD 0 (s.data.toList.take k) = V at *
              obtain ⟨x, hx⟩ : ∃ x, s[k].toNat = x := ⟨_, rfl⟩
              have hx0 : x < 256 := by rw [← hx]; exact UInt8.toNat_lt _
              rw [hx] at h1 h2
              have hxH := Lib.hid hx
              have u1 : IntKind.u8.wrap ((x : Int) - 48) = ((x - 48 : Nat) : Int) := by simp [IntKind.wrap, IntKind.bits, IntKind.signed]; omega
              have u2 : IntKind.i64.wrap ((x - 48 : Nat) : Int) = ((x - 48 : Nat) : Int) := IntWalk.i64_in _ (by omega)
              have u3 : IntKind.i64.wrap (10 * (V : Int)) = 10 * (V : Int) := IntWalk.i64_in _ (by omega)
              have u4 : IntKind.i64.wrap (10 * (V : Int) + ((x - 48 : Nat) : Int)) = 10 * (V : Int) + ((x - 48 : Nat) : Int) := IntWalk.i64_in _ (by omega)
              clear hF hg hD
              go_wp2
              go_roundw
              case rel => exact ⟨k + 1, hlt, by go_num, by rw [hv2.out, hxH.out]; go_num, hD2, by first | rfl | trivial⟩
              case measure => simp [intOf]; omega
        · obtain rfl : k = s.size := by omega
          have ht : s.data.toList.take s.size = s.data.toList := List.take_of_length_le (by simp)
          rw [ht] at hD hvl ⊢
          have hFd := digF_digits h10 hD.out
          rw [hF.out] at hFd
          have hFd := Lib.hid hFd
          clear ht hF
          generalize valD 0 s.data.toList = V at *
          by_cases hq : decB (V : Int) = s
          · have hF2 : Hid (some (V : Int) = F) := by
              show _ = _
              rw [hFd.out, if_pos hq]
            have hq2 : ((decB (V : Int)).toList == s.toList) = true := str_beq hq
            have hcall := spec_l01Dec V wr (by omega)
            clear hq hFd
            go_wp2_with fail
            refine hcall.mono ?_
            rintro e w2 ⟨rfl, hB2⟩
            go_wp2
            go_ret2
            exact ⟨(V : Int), by rw [← hF2.out]; rfl, fun v hv => (by rw [← hF2.out] at hv; exact Option.some.inj hv), by omega, by omega, hB2⟩
          · have hF2 : Hid (none = F) := by
              show _ = _
              rw [hFd.out, if_neg hq]
            have hq2 : ((decB (V : Int)).toList == s.toList) = false := str_bne hq
            have hcall := spec_l01Dec V wr (by omega)
            clear hq hFd
            go_wp2_with fail
            refine hcall.mono ?_
            rintro e w2 ⟨rfl, hB2⟩
            go_wp2
            go_ret2
            exact ⟨(V : Int), by rw [← hF2.out]; rfl, fun v hv => (by rw [← hF2.out] at hv; cases hv), by omega, by omega, hB2⟩
    · have hN : Hid (none = F) := by
        show _ = _
        rw [← hF.out]
        unfold digF
        rw [if_neg h10]
      have i0 : ¬ (s.size : Int) < 1 := by omega
      have i1 : (10 : Int) < (s.size : Int) := by omega
      clear h0 h10
      go_enter Tryz.func84, Tryz.ntmps84
      go_wp2
      go_ret2
      exact ⟨0, by rw [← hN.out]; rfl, fun v hv => (by rw [← hN.out] at hv; cases hv), by decide, by decide, Below.refl _ _⟩
end Go.Proofs.YtcoomogabicfnaaGreatDoor
