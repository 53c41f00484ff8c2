/-
  Texts cut: strings.Split, strings.Cut, the reference's l01Split and l01Numbers.
-/
import Derived.Test.YtcoomogabicfnaaGreatDoorNum
import Derived.Test.YtcoomogabicfnaaGreatDoorTxtR
namespace Go.Proofs.YtcoomogabicfnaaGreatDoor
open Go.RowKit
set_option linter.unusedVariables false
set_option linter.unusedSimpArgs false
/-- A new block of many texts, as a slice of one's own. -/
theorem own_strs (w : World) (base : Nat) (hb : base ≤ w.heap.size) (l : List ByteArray) (hl : l.length ≤ 1000000000) : Own strCell 1 9 (w.alloc (.cells (l.map Value.string).toArray 9)) base (.slice (some ⟨w.heap.size, 0, none⟩) l.length l.length) l := by
  have e : l.flatMap strCell = l.map Value.string := by
    induction l with
    | nil => rfl
    | cons a l ih => rw [List.flatMap_cons, ih (by simp at hl; omega)]; rfl
  refine ⟨by rw [e]; simp, .inr ⟨w.heap.size, l.length, (l.map Value.string).toArray, rfl, hb, heap_alloc_new w _, Nat.le_refl _, by unfold maxLen; omega, by simp, ?_⟩⟩
  rw [e]
  simp only [List.toList_toArray, Nat.mul_one]
  exact List.take_of_length_le (by simp)
theorem splitF_len (c : UInt8) (s : ByteArray) : (splitF c s).length ≤ s.size + 1 := by
  unfold splitF
  rw [List.length_map, cutAt_len, bsize]
  have := List.count_le_length (a := c) (l := s.data.toList)
  omega
theorem strings_Split (s : ByteArray) (c : UInt8) (w : World) (hs : s.size ≤ 100000000) (hE : Env w) :
    Calls Tryz.prog 36 #[.string s, .string ⟨#[c]⟩] w fun e w' => RetOwn strCell 1 9 w (splitF c s) e w' := by
  obtain ⟨m, hm⟩ := hE.max
  refine (Any.strings_Split { Tryz.lays146 with } (by kernel_rfl) s ⟨#[c]⟩ m w (by omega) hm (Nat.le_refl 1)).mono ?_
  rintro e w' ⟨rfl, rfl⟩
  have hl := splitF_len c s
  have h1 := Lib.splitB_all ⟨#[c]⟩ (Nat.le_refl 1) 0 _ s rfl
  rw [splitB_one] at h1
  have hO := own_strs w w.heap.size (Nat.le_refl _) (splitF c s) (by omega)
  rw [splitB_one, ← h1]
  exact ⟨_, rfl, hO, (Below.refl _ _).alloc (Nat.le_refl _) _⟩
/-- How far a text is cut: L is cut off, the next word begins at f, the bytes from f to k are not the separator. -/
def SplitAt (c : UInt8) (s : ByteArray) (L : List ByteArray) (f k : Nat) : Prop :=
  f ≤ k ∧ L.length ≤ k ∧ (k ≤ s.size → cutAt c s.data.toList = L.map (·.data.toList) ++ cutAt c (s.data.toList.drop f) ∧ c ∉ (s.data.toList.drop f).take (k - f)) ∧ (s.size < k → splitF c s = L)
theorem SplitAt.start (c : UInt8) (s : ByteArray) : SplitAt c s [] 0 0 := ⟨Nat.le_refl _, Nat.le_refl _, fun _ => ⟨by simp, by simp⟩, fun h => absurd h (by omega)⟩
theorem sub_data (s : ByteArray) (f k : Nat) : (s.extract f k).data.toList = (s.data.toList.drop f).take (k - f) := by
  rw [Lib.extract_data]
theorem SplitAt.miss {c : UInt8} {s : ByteArray} {L : List ByteArray} {f k : Nat} (h : SplitAt c s L f k) (hk : k < s.size) (hn : s.data.toList[k]? ≠ some c) : SplitAt c s L f (k + 1) := by
  obtain ⟨h0, h1, h2, h3⟩ := h
  obtain ⟨h4, h5⟩ := h2 (by omega)
  refine ⟨by omega, by omega, fun _ => ⟨h4, ?_⟩, fun hh => absurd hh (by omega)⟩
  rw [show k + 1 - f = (k - f) + 1 by omega, List.take_add_one]
  simp only [List.mem_append, not_or]
  refine ⟨h5, ?_⟩
  rw [List.getElem?_drop, show f + (k - f) = k by omega]
  intro hm
  cases hg : s.data.toList[k]? with
  | none => rw [hg] at hm; simp at hm
  | some x =>
    rw [hg] at hm hn
    simp at hm
    exact hn (by rw [hm])
theorem map_data_eq {l m : List ByteArray} (h : l.map (·.data.toList) = m.map (·.data.toList)) : l = m := by
  induction l generalizing m with
  | nil => cases m with
    | nil => rfl
    | cons b m => simp at h
  | cons a l ih => cases m with
    | nil => simp at h
    | cons b m =>
      rw [List.map_cons, List.map_cons] at h
      injection h with h1 h2
      rw [bext h1, ih h2]
theorem splitF_data (c : UInt8) (s : ByteArray) : (splitF c s).map (·.data.toList) = cutAt c s.data.toList := by
  unfold splitF
  rw [List.map_map]
  have e : ((fun x : ByteArray => x.data.toList) ∘ fun l : List UInt8 => (⟨l.toArray⟩ : ByteArray)) = id := by
    funext x
    simp
  rw [e, List.map_id]
theorem SplitAt.hit {c : UInt8} {s : ByteArray} {L : List ByteArray} {f k : Nat} (h : SplitAt c s L f k) (hk : k < s.size) (hn : s.data.toList[k]? = some c) : SplitAt c s (L ++ [s.extract f k]) (k + 1) (k + 1) := by
  obtain ⟨h0, h1, h2, h3⟩ := h
  obtain ⟨h4, h5⟩ := h2 (by omega)
  refine ⟨Nat.le_refl _, by simp; omega, fun _ => ⟨?_, by simp⟩, fun hh => absurd hh (by omega)⟩
  have hkl : k < s.data.toList.length := by simpa using hk
  have e : s.data.toList.drop f = (s.data.toList.drop f).take (k - f) ++ c :: s.data.toList.drop (k + 1) := by
    have e1 : (s.data.toList.drop f).drop (k - f) = c :: s.data.toList.drop (k + 1) := by
      rw [List.drop_drop, show f + (k - f) = k by omega, List.drop_eq_getElem_cons hkl]
      rw [List.getElem?_eq_getElem hkl] at hn
      rw [Option.some.inj hn]
    rw [← e1, List.take_append_drop]
  rw [h4, e, cutAt_hit _ h5, List.map_append, List.map_cons, List.map_nil, sub_data]
  simp
theorem SplitAt.last {c : UInt8} {s : ByteArray} {L : List ByteArray} {f : Nat} (h : SplitAt c s L f s.size) : SplitAt c s (L ++ [s.extract f s.size]) (s.size + 1) (s.size + 1) := by
  obtain ⟨h0, h1, h2, h3⟩ := h
  obtain ⟨h4, h5⟩ := h2 (by omega)
  refine ⟨Nat.le_refl _, by simp; omega, fun hh => absurd hh (by omega), fun _ => ?_⟩
  apply map_data_eq
  have e : (s.data.toList.drop f).take (s.size - f) = s.data.toList.drop f := List.take_of_length_le (by simp)
  rw [e] at h5
  rw [splitF_data, h4, cutAt_none h5, List.map_append, List.map_cons, List.map_nil, sub_data, e]
set_option maxHeartbeats 4000000 in
set_option maxRecDepth 100000 in
theorem spec_l01Split (s : ByteArray) (c : UInt8) (x : Int) (hx : (c.toNat : Int) = x) (w : World) (hs : s.size ≤ 100000000) :
    Calls Tryz.prog 40 #[.string s, .int .u8 x] w fun e w' => RetOwn strCell 1 9 w (splitF c s) e w' := by
  go_enter Tryz.func40, Tryz.ntmps40
  go_wp2
  go_loopw [5, 6, 7] (fun u fr i wr => ∃ (k f : Nat) (L : List ByteArray), k ≤ s.size + 1 ∧ i = .int .i64 k ∧ fr = .int .i64 f ∧ Hid (SplitAt c s L f k) ∧ Own strCell 1 9 wr w.heap.size u L ∧ Below w.heap.size w wr) (fun _ _ i _ => s.size + 1 - (intOf i).toNat)
  case atStart => exact ⟨0, 0, [], Nat.zero_le _, rfl, rfl, SplitAt.start c s, own_new0 _ _ _ _ _ (Nat.le_refl _), (Below.refl _ _).alloc (Nat.le_refl _) _⟩
  case round =>
    obtain ⟨k, f, L, hk, rfl, rfl, hS, hO, hB⟩ := hrel
    have hf := hS.out.1
    have hL := hS.out.2.1
    have hws := hB.size
    by_cases hlt : k < s.size
    · have hl : k < s.data.toList.length := by simpa using hlt
      have hg : s.data.toList[k] = s[k] := by simp [ByteArray.getElem_eq_getElem_data]
      have hg2 : s.data.toList[k]? = some s[k] := by rw [List.getElem?_eq_getElem hl, hg]
      by_cases h1 : (s[k].toNat : Int) = x
      · have hc : s[k] = c := UInt8.toNat_inj.1 (by omega)
        have hS2 : Hid (SplitAt c s (L ++ [s.extract f k]) (k + 1) (k + 1)) := hS.out.hit hlt (by rw [hg2, hc])
        have hq : ((s[k].toNat : Int) == x) = true := by simpa using h1
        clear hS hg hg2 hc h1 hx
        go_wp2_with (at_builtin; refine wpList_append_lst rfl _ _ 27 rfl strCell 1 strCell_one (by omega) w.heap.size 9 _ 16 Tryz.underlying27 info_str rfl _ _ rfl (hO.alloc _) _ _ _ _ [s.extract f k] rfl (lst_new1 strCell 1 strCell_len _ _ _ _ rfl _ (by simp)) (by simp; omega) (by omega) (Nat.le_trans hws (by simp)) ?_; intro v' w9 hO1 hG1 hD1)
        have hB2 := (hB.alloc hws (.cells #[.string (s.extract f k)] 9)).grown hG1 (Nat.le_trans hws (by simp)) (fun j hj => (hO.lt j hj).1)
        go_roundw
        case rel => exact ⟨k + 1, k + 1, _, by omega, by go_num, by go_num, hS2, hO1, hB2⟩
        case measure => simp [intOf] <;> omega
      · have hS2 : Hid (SplitAt c s L f (k + 1)) := hS.out.miss hlt (by rw [hg2]; intro e; exact h1 (by rw [Option.some.inj e]; exact hx))
        have hq : ((s[k].toNat : Int) == x) = false := by simpa using h1
        clear hS hg hg2 h1 hx
        go_wp2
        go_roundw
        case rel => exact ⟨k + 1, f, L, by omega, by go_num, by go_num, hS2, hO, hB⟩
        case measure => simp [intOf] <;> omega
    · by_cases he : k = s.size
      · subst he
        have hS2 : Hid (SplitAt c s (L ++ [s.extract f s.size]) (s.size + 1) (s.size + 1)) := hS.out.last
        clear hS hx
        go_wp2_with (at_builtin; refine wpList_append_lst rfl _ _ 27 rfl strCell 1 strCell_one (by omega) w.heap.size 9 _ 16 Tryz.underlying27 info_str rfl _ _ rfl (hO.alloc _) _ _ _ _ [s.extract f s.size] rfl (lst_new1 strCell 1 strCell_len _ _ _ _ rfl _ (by simp)) (by simp; omega) (by omega) (Nat.le_trans hws (by simp)) ?_; intro v' w9 hO1 hG1 hD1)
        have hB2 := (hB.alloc hws (.cells #[.string (s.extract f s.size)] 9)).grown hG1 (Nat.le_trans hws (by simp)) (fun j hj => (hO.lt j hj).1)
        go_roundw
        case rel => exact ⟨s.size + 1, s.size + 1, _, by omega, by go_num, by go_num, hS2, hO1, hB2⟩
        case measure => simp [intOf] <;> omega
      · obtain rfl : k = s.size + 1 := by omega
        have hE := hS.out.2.2.2 (by omega)
        have hEH := Lib.hid hE
        clear hE hS hx
        have i1 : ¬ ((s.size + 1 : Nat) : Int) ≤ (s.size : Int) := by omega
        go_wp2
        go_ret
        rw [hEH.out]
        exact ⟨_, rfl, hO, hB⟩
end Go.Proofs.YtcoomogabicfnaaGreatDoor
