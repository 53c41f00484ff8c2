/-
  The walks of IsEventName, the program's and the reference's, and of EventNamed.
-/
import Derived.Test.YtcoomogabicfnaaGreatDoorCopy
namespace Go.Proofs.YtcoomogabicfnaaGreatDoor
open Go.RowKit
set_option linter.unusedVariables false
set_option linter.unusedSimpArgs false

def lowB (c : UInt8) : Bool := decide (97 ≤ (c.toNat : Int)) && decide ((c.toNat : Int) ≤ 122)
def nameOk (s : ByteArray) : Bool := inB s.size 1 8 && s.data.toList.all lowB

set_option maxHeartbeats 400000 in
set_option maxRecDepth 100000 in
theorem spec_IsEventName (s : ByteArray) (w : World) (b0 : Hid (s.size ≤ maxLen)) :
    Calls Tryz.prog 55 #[.string s] w fun e w' => e = .returned (.bool (nameOk s)) ∧ Below w.heap.size w w' := by
  have hs := b0.out
  unfold maxLen at hs
  clear b0
  go_enter Tryz.func55, Tryz.ntmps55
  go_wp2
  go_loop [3] (fun i => ∃ k : Nat, k ≤ s.size ∧ i = .int .i64 k ∧ Hid ((s.data.toList.take k).all lowB = true)) (fun i => s.size - (intOf i).toNat)
  case atStart => exact ⟨0, Nat.zero_le _, rfl, rfl⟩
  case round =>
    obtain ⟨k, hk, rfl, hA⟩ := hrel
    by_cases hlt : k < s.size
    · have hl : k < s.data.toList.length := by simpa using hlt
      have hg : s.data.toList[k] = s[k] := by simp [ByteArray.getElem_eq_getElem_data]
      by_cases h1 : (s[k].toNat : Int) < 97
      · have hN : Hid (nameOk s = false) := by
          show _ = _
          rw [nameOk, Bool.and_eq_false_iff]
          refine .inr ?_
          rw [List.all_eq_false]
          exact ⟨s[k], by rw [← hg]; exact List.getElem_mem hl, by simp [lowB]; omega⟩
        go_wp2
        go_ret
        exact ⟨ret_bool hN.out.symm, Below.refl _ _⟩
      · by_cases h2 : 122 < (s[k].toNat : Int)
        · have hN : Hid (nameOk s = false) := by
            show _ = _
            rw [nameOk, Bool.and_eq_false_iff]
            refine .inr ?_
            rw [List.all_eq_false]
            exact ⟨s[k], by rw [← hg]; exact List.getElem_mem hl, by simp [lowB]; omega⟩
          go_wp2
          go_ret
          exact ⟨ret_bool hN.out.symm, Below.refl _ _⟩
        · have hN : Hid ((s.data.toList.take (k + 1)).all lowB = true) := by
            show _ = _
            rw [take_succ_get _ _ hl, List.all_append, hA.out, hg]
            simp [lowB]
            omega
          go_wp2
          go_round
          case rel => exact ⟨k + 1, hlt, by go_num, hN⟩
          case measure => simp [intOf]; omega
    · obtain rfl : k = s.size := by omega
      have hN : Hid (nameOk s = inB s.size 1 8) := by
        have h := hA.out
        rw [List.take_of_length_le (by simp)] at h
        show _ = _
        rw [nameOk, h, Bool.and_true]
      have hI : Hid (inB s.size 1 8 = (decide (1 ≤ (s.size : Int)) && decide ((s.size : Int) ≤ 8))) := rfl
      by_cases h1 : 1 ≤ (s.size : Int)
      · have hI2 : Hid ((decide (1 ≤ (s.size : Int)) && decide ((s.size : Int) ≤ 8)) = decide ((s.size : Int) ≤ 8)) := by show _ = _; simp; omega
        go_wp2
        go_ret
        exact ⟨ret_bool (by rw [hN.out, hI.out, hI2.out]), Below.refl _ _⟩
      · have hI2 : Hid ((decide (1 ≤ (s.size : Int)) && decide ((s.size : Int) ≤ 8)) = false) := by show _ = _; simp; omega
        go_wp2
        go_ret
        exact ⟨ret_bool (by rw [hN.out, hI.out, hI2.out]), Below.refl _ _⟩
set_option maxHeartbeats 400000 in
set_option maxRecDepth 100000 in
theorem impl_IsEventName (s : ByteArray) (w : World) (b0 : Hid (s.size ≤ maxLen)) :
    Calls Tryz.prog 21 #[.string s] w fun e w' => e = .returned (.bool (nameOk s)) ∧ Below w.heap.size w w' := by
  have hs := b0.out
  unfold maxLen at hs
  clear b0
  by_cases hin : inB s.size 1 8 = true
  · go_enter Tryz.func21, Tryz.ntmps21
    go_wp2_with (go_at_call 42; refine (impl_within _ _ _ _).mono ?_; rintro e w' ⟨rfl, rfl⟩)
    go_loop [3] (fun i => ∃ k : Nat, k ≤ s.size ∧ i = .int .i64 k ∧ Hid ((s.data.toList.take k).all lowB = true)) (fun i => s.size - (intOf i).toNat)
    case atStart => exact ⟨0, Nat.zero_le _, rfl, rfl⟩
    case round =>
      obtain ⟨k, hk, rfl, hA⟩ := hrel
      by_cases hlt : k < s.size
      · have hl : k < s.data.toList.length := by simpa using hlt
        have hg : s.data.toList[k] = s[k] := by simp [ByteArray.getElem_eq_getElem_data]
        by_cases h1 : (s[k].toNat : Int) < 97
        · have hN : Hid (nameOk s = false) := by
            show _ = _
            rw [nameOk, Bool.and_eq_false_iff]
            refine .inr ?_
            rw [List.all_eq_false]
            exact ⟨s[k], by rw [← hg]; exact List.getElem_mem hl, by simp [lowB]; omega⟩
          go_wp2
          go_ret
          exact ⟨ret_bool hN.out.symm, Below.refl _ _⟩
        · by_cases h2 : 122 < (s[k].toNat : Int)
          · have hN : Hid (nameOk s = false) := by
              show _ = _
              rw [nameOk, Bool.and_eq_false_iff]
              refine .inr ?_
              rw [List.all_eq_false]
              exact ⟨s[k], by rw [← hg]; exact List.getElem_mem hl, by simp [lowB]; omega⟩
            go_wp2
            go_ret
            exact ⟨ret_bool hN.out.symm, Below.refl _ _⟩
          · have hN : Hid ((s.data.toList.take (k + 1)).all lowB = true) := by
              show _ = _
              rw [take_succ_get _ _ hl, List.all_append, hA.out, hg]
              simp [lowB]
              omega
            go_wp2
            go_round
            case rel => exact ⟨k + 1, hlt, by go_num, hN⟩
            case measure => simp [intOf]; omega
      · obtain rfl : k = s.size := by omega
        have hN : Hid (nameOk s = true) := by
          have h := hA.out
          rw [List.take_of_length_le (by simp)] at h
          show _ = _
          rw [nameOk, h, hin]
          rfl
        go_wp2
        go_ret
        exact ⟨ret_bool hN.out.symm, Below.refl _ _⟩
  · have hin' : inB s.size 1 8 = false := by simpa using hin
    clear hin
    have hN : Hid (nameOk s = false) := by
      show _ = _
      rw [nameOk, hin']
      rfl
    go_enter Tryz.func21, Tryz.ntmps21
    go_wp2_with (go_at_call 42; refine (impl_within _ _ _ _).mono ?_; rintro e w' ⟨rfl, rfl⟩)
    go_ret
    exact ⟨ret_bool hN.out.symm, Below.refl _ _⟩

theorem info_str : (Tryz.prog.info? 9).map (fun i => (i.zero, i.size, i.bytes)) = some (some (.string ByteArray.empty), 1, 16) := by kernel_rfl


/-- The index of a name in a list, or -1. -/
def findStr (l : List ByteArray) (s : ByteArray) : Int := match l.findIdx? (fun x => x = s) with | some i => (i : Int) | none => -1
theorem findStr_hit (l : List ByteArray) (s : ByteArray) (k : Nat) (hk : k < l.length) (h : ∀ j (hj : j < k), l[j] ≠ s) (e : l[k] = s) : findStr l s = k := by
  unfold findStr
  rw [List.findIdx?_eq_some_iff_getElem.2 ⟨hk, by simpa using e, fun j hj => by simpa using h j hj⟩]
theorem findStr_miss (l : List ByteArray) (s : ByteArray) (h : ∀ j (hj : j < l.length), l[j] ≠ s) : findStr l s = -1 := by
  unfold findStr
  rw [List.findIdx?_eq_none_iff.2 (fun x hx => by
    obtain ⟨j, hj, rfl⟩ := List.mem_iff_getElem.1 hx
    simpa using h j hj)]

set_option maxHeartbeats 400000 in
set_option maxRecDepth 100000 in
theorem spec_l18Find (v : Value) (l : List ByteArray) (s : ByteArray) (w : World) (h0 : Lst strCell 1 w w.heap.size v l) :
    Calls Tryz.prog 56 #[v, .string s] w fun e w' => e = .returned (.int .i64 (findStr l s)) ∧ w = w' := by
  obtain ⟨A, c, rfl⟩ := h0.shape
  have hl := h0.len_le
  go_enter Tryz.func56, Tryz.ntmps56
  go_wp2
  go_loop [5] (fun i => ∃ k : Nat, k ≤ l.length ∧ i = .int .i64 k ∧ Hid (∀ j (hj : j < k) (hl : j < l.length), l[j] ≠ s)) (fun i => l.length - (intOf i).toNat)
  case atStart => exact ⟨0, Nat.zero_le _, rfl, fun j hj => absurd hj (by omega)⟩
  case round =>
    obtain ⟨k, hk, rfl, hN⟩ := hrel
    by_cases hlt : k < l.length
    · obtain ⟨b, off, rfl, hb, c0⟩ := strs_at h0 k hlt
      by_cases heq : l[k] = s
      · have hq : (l[k].toList == s.toList) = true := str_beq heq
        have hF : Hid (findStr l s = k) := findStr_hit l s k hlt (fun j hj => hN.out j hj (by omega)) heq
        clear heq
        go_wp2
        go_ret
        exact ⟨ret_int hF.out.symm, rfl⟩
      · have hq : (l[k].toList == s.toList) = false := str_bne heq
        have hN' : Hid (∀ j (hj : j < k + 1) (hl : j < l.length), l[j] ≠ s) := by
          intro j hj hl2
          rcases Nat.lt_or_ge j k with h | h
          · exact hN.out j h hl2
          · obtain rfl : j = k := by omega
            exact heq
        clear heq
        go_wp2
        go_round
        case rel => exact ⟨k + 1, hlt, by go_num, hN'⟩
        case measure => simp [intOf]; omega
    · obtain rfl : k = l.length := by omega
      have hF : Hid (findStr l s = -1) := findStr_miss l s fun j hj => hN.out j hj hj
      go_wp2
      go_ret
      exact ⟨ret_int hF.out.symm, rfl⟩

set_option maxHeartbeats 400000 in
set_option maxRecDepth 100000 in
theorem slices_IndexStr (v : Value) (l : List ByteArray) (s : ByteArray) (w : World) (h0 : Lst strCell 1 w w.heap.size v l) :
    Calls Tryz.prog 46 #[v, .string s] w fun e w' => e = .returned (.int .i64 (findStr l s)) ∧ w = w' := by
  obtain ⟨A, c, rfl⟩ := h0.shape
  have hl := h0.len_le
  go_enter Tryz.func46, Tryz.ntmps46
  go_wp2
  go_loop [5, 8] (fun _ i => ∃ k : Nat, k ≤ l.length ∧ i = .int .i64 k ∧ Hid (∀ j (hj : j < k) (hl : j < l.length), l[j] ≠ s)) (fun _ i => l.length - (intOf i).toNat)
  case atStart => exact ⟨0, Nat.zero_le _, rfl, fun j hj => absurd hj (by omega)⟩
  case round =>
    obtain ⟨k, hk, rfl, hN⟩ := hrel
    by_cases hlt : k < l.length
    · obtain ⟨b, off, rfl, hb, c0⟩ := strs_at h0 k hlt
      by_cases heq : l[k] = s
      · have hq : (s.toList == l[k].toList) = true := str_beq heq.symm
        have hF : Hid (findStr l s = k) := findStr_hit l s k hlt (fun j hj => hN.out j hj (by omega)) heq
        clear heq
        go_wp2
        go_ret
        exact ⟨ret_int hF.out.symm, rfl⟩
      · have hq : (s.toList == l[k].toList) = false := str_bne fun h => heq h.symm
        have hN' : Hid (∀ j (hj : j < k + 1) (hl : j < l.length), l[j] ≠ s) := by
          intro j hj hl2
          rcases Nat.lt_or_ge j k with h | h
          · exact hN.out j h hl2
          · obtain rfl : j = k := by omega
            exact heq
        clear heq
        go_wp2
        go_round
        case rel => exact ⟨k + 1, hlt, by go_num, hN'⟩
        case measure => simp [intOf]; omega
    · obtain rfl : k = l.length := by omega
      have hF : Hid (findStr l s = -1) := findStr_miss l s fun j hj => hN.out j hj hj
      go_wp2
      go_ret
      exact ⟨ret_int hF.out.symm, rfl⟩

def eventNamed (l : List ByteArray) (s : ByteArray) : Int × Int := if findStr l s < 0 then (0, 4) else (findStr l s, 0)


end Go.Proofs.YtcoomogabicfnaaGreatDoor
