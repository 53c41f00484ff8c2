/-
  Texts of runs, read. Plain Lean.
-/
import Derived.Test.YtcoomogabicfnaaGreatDoorTxtN
import Derived.Test.YtcoomogabicfnaaGreatDoorRunP
namespace Go.Proofs.YtcoomogabicfnaaGreatDoor
open Go
set_option linter.unusedVariables false
set_option linter.unusedSimpArgs false
/-! Texts of runs, read. -/
/-- One word: a number, an at sign, a number. -/
def pairF (a b : Option Int) : Option (Int × Int) := match a, b with
  | some e, some t => if inB e 0 1000000 && inB t 0 1000000 then some (e, t) else none
  | _, _ => none
def wordF (s : ByteArray) : Option (Int × Int) := match splitF 64 s with
  | [a, b] => pairF (numF a) (numF b)
  | _ => none
def readL (acc : List Firing) : List ByteArray → Option (List Firing)
  | [] => some acc
  | s :: r => match wordF s with
    | none => none
    | some p => if acc.length = 500 then none else readL (acc ++ [⟨p.1, (timesIn acc p.1).length + 1, p.2⟩]) r
def readF (s : ByteArray) : Option (List Firing) := if s.size = 0 then some [] else readL [] (splitF 32 s)
theorem pairF_none (a : Option Int) : pairF a none = none := by cases a <;> rfl
/-- The first instance of a byte. -/
theorem first_at {c : UInt8} : ∀ {l : List UInt8}, c ∈ l → ∃ a b, l = a ++ c :: b ∧ c ∉ a
  | x :: l, h => by
    by_cases hx : x = c
    · subst hx
      exact ⟨[], l, rfl, by simp⟩
    · obtain ⟨a, b, rfl, hn⟩ := first_at (l := l) (by rcases List.mem_cons.1 h with e | h; exact absurd e.symm hx; exact h)
      exact ⟨x :: a, b, rfl, by simp only [List.mem_cons, not_or]; exact ⟨fun e => hx e.symm, hn⟩⟩
theorem cut_hit {c : UInt8} {a b : List UInt8} (hn : c ∉ a) : Lib.cut (a ++ c :: b) [c] = (a, b, true) := by
  have e : Lib.index (a ++ c :: b) [c] = (a.length : Int) := by
    refine Lib.index_first (by simp) ?_ ?_
    · simp [Lib.occAt]
    · intro j hj
      cases ho : Lib.occAt (a ++ c :: b) [c] j with
      | false => rfl
      | true =>
        have := Lib.occAt_head rfl ho
        rw [List.getElem?_append_left hj] at this
        exact absurd (List.mem_of_getElem? this) hn
  unfold Lib.cut
  rw [e, if_pos (by omega)]
  simp
theorem cut_miss {c : UInt8} {l : List UInt8} (hn : c ∉ l) : Lib.cut l [c] = (l, [], false) := by
  have e : Lib.index l [c] = -1 := by
    refine Lib.index_none ?_
    intro j hj
    cases ho : Lib.occAt l [c] j with
    | false => rfl
    | true =>
      have := Lib.occAt_head rfl ho
      exact absurd (List.mem_of_getElem? this) hn
  unfold Lib.cut
  rw [e, if_neg (by omega)]
/-- The program's way to read a word. -/
theorem word_cut (s : ByteArray) : pairF (numF ⟨(Lib.cut s.data.toList [64]).1.toArray⟩) (numF ⟨(Lib.cut s.data.toList [64]).2.1.toArray⟩) = wordF s := by
  unfold wordF splitF
  by_cases hm : (64 : UInt8) ∈ s.data.toList
  · obtain ⟨a, b, he, hn⟩ := first_at hm
    rw [he, cut_hit hn, cutAt_hit b hn]
    by_cases hb : (64 : UInt8) ∈ b
    · rw [numF_at (s := ⟨b.toArray⟩) (c := 64) (by decide) (by decide) (by simpa using hb), pairF_none]
      obtain ⟨a2, b2, rfl, hn2⟩ := first_at hb
      rw [cutAt_hit b2 hn2]
      obtain ⟨x, r, hx⟩ : ∃ x r, cutAt 64 b2 = x :: r := by
        cases h : cutAt 64 b2 with
        | nil => exact absurd h (cutAt_ne _ _)
        | cons x r => exact ⟨x, r, rfl⟩
      rw [hx]
      rfl
    · rw [cutAt_none hb]
      rfl
  · rw [cut_miss hm, cutAt_none hm, numF_nil (s := ⟨([] : List UInt8).toArray⟩) rfl, pairF_none]
    rfl
/-- The reference's way: all numbers first, then how many. -/
def numsF : List ByteArray → Option (List Int)
  | [] => some []
  | s :: r => match sgnF s with
    | none => none
    | some v => (numsF r).map fun l => v :: l
def twoF (o : Option (List Int)) : Option (Int × Int) := match o with
  | some [e, t] => if inB e 0 1000000 && inB t 0 1000000 then some (e, t) else none
  | _ => none
theorem numsF_len : ∀ (l : List ByteArray) (m : List Int), numsF l = some m → m.length = l.length
  | [], m, h => by simp [numsF] at h; subst h; rfl
  | s :: r, m, h => by
    simp only [numsF] at h
    split at h
    · cases h
    · obtain ⟨k, hk, rfl⟩ := Option.map_eq_some_iff.1 h
      simp [numsF_len r k hk]
theorem sgn_of_num {s : ByteArray} {v : Int} (h : numF s = some v) (h0 : 0 ≤ v ∧ v ≤ 1000000) : sgnF s = some v := (sgn_num (by omega) (by omega)).2 h
theorem num_of_sgn {s : ByteArray} {v : Int} (h : sgnF s = some v) : numF s = some v := (sgn_num (sgnF_lt h).1 (sgnF_lt h).2).1 h
theorem inB_two {a b : Int} : (inB a 0 1000000 && inB b 0 1000000) = true ↔ (0 ≤ a ∧ a ≤ 1000000) ∧ 0 ≤ b ∧ b ≤ 1000000 := by simp [inB]
theorem word_nums (s : ByteArray) : twoF (numsF (splitF 64 s)) = wordF s := by
  unfold wordF
  generalize splitF 64 s = l
  match l with
  | [] => rfl
  | [a] =>
    simp only [numsF]
    cases sgnF a <;> rfl
  | [a, b] =>
    simp only [numsF]
    apply Option.ext
    intro p
    constructor
    · intro h
      cases ha : sgnF a with
      | none => rw [ha] at h; cases h
      | some u =>
        cases hb : sgnF b with
        | none => rw [ha, hb] at h; cases h
        | some v =>
          rw [ha, hb] at h
          rw [num_of_sgn ha, num_of_sgn hb]
          exact h
    · intro h
      cases ha : numF a with
      | none => rw [ha] at h; cases h
      | some u =>
        cases hb : numF b with
        | none => rw [ha, hb, pairF_none] at h; cases h
        | some v =>
          rw [ha, hb] at h
          have hp : (inB u 0 1000000 && inB v 0 1000000) = true := by
            simp only [pairF] at h
            split at h
            · assumption
            · cases h
          obtain ⟨h1, h2⟩ := inB_two.1 hp
          rw [sgn_of_num ha h1, sgn_of_num hb h2]
          exact h
  | a :: b :: c :: r =>
    cases h : numsF (a :: b :: c :: r) with
    | none => rfl
    | some m =>
      have := numsF_len _ _ h
      match m, this with
      | x :: y :: z :: m, _ => rfl

theorem partT_data (f : Firing) : (partT f).data.toList = Lib.itoa f.event ++ 64 :: Lib.itoa f.time := by
  simp [partT, decB, ByteArray.data_append]
theorem wordF_iff (s : ByteArray) (e t : Int) : wordF s = some (e, t) ↔ (0 ≤ e ∧ e ≤ 1000000) ∧ (0 ≤ t ∧ t ≤ 1000000) ∧ s = partT ⟨e, 0, t⟩ := by
  constructor
  · intro h
    unfold wordF at h
    split at h
    · rename_i a b hs
      cases ha : numF a with
      | none => rw [ha] at h; cases h
      | some u =>
        cases hb : numF b with
        | none => rw [hb, pairF_none] at h; cases h
        | some v =>
          rw [ha, hb] at h
          simp only [pairF] at h
          split at h
          · rename_i hp
            injection h with h
            injection h with h1 h2
            subst h1 h2
            obtain ⟨h1, h2⟩ := inB_two.1 hp
            refine ⟨h1, h2, ?_⟩
            obtain ⟨_, rfl⟩ := (numF_iff _ _).1 ha
            obtain ⟨_, rfl⟩ := (numF_iff _ _).1 hb
            have := joinB_splitF 64 s
            rw [hs] at this
            rw [← this]
            apply bext
            rw [partT_data]
            simp only [joinB, List.map_cons, List.map_nil, Lib.join_cons, decB_data]
            simp [Lib.joinTail]
          · cases h
    · cases h
  · rintro ⟨h1, h2, rfl⟩
    have hs : splitF 64 (partT ⟨e, 0, t⟩) = [decB e, decB t] := by
      unfold splitF
      rw [partT_data, cutAt_hit _ (itoa_no (by decide) (by decide)), cutAt_none (itoa_no (by decide) (by decide))]
      rfl
    have n1 : numF (decB e) = some e := numF_dec ⟨by omega, by omega⟩
    have n2 : numF (decB t) = some t := numF_dec ⟨by omega, by omega⟩
    unfold wordF
    rw [hs]
    simp only [n1, n2, pairF]
    rw [if_pos (inB_two.2 ⟨h1, h2⟩)]
theorem partT_num (e n m t : Int) : partT ⟨e, n, t⟩ = partT ⟨e, m, t⟩ := rfl
theorem readL_text : ∀ (r : List ByteArray) (acc y : List Firing), (∀ f ∈ acc, okT f = true) → acc.length ≤ 500 → readL acc r = some y → y.map partT = acc.map partT ++ r ∧ (∀ f ∈ y, okT f = true) ∧ y.length ≤ 500
  | [], acc, y, h0, h1, h => by
    simp only [readL] at h
    injection h with h
    subst h
    simpa using ⟨h0, h1⟩
  | s :: r, acc, y, h0, h1, h => by
    simp only [readL] at h
    cases hw : wordF s with
    | none => rw [hw] at h; cases h
    | some p =>
      obtain ⟨e, t⟩ := p
      rw [hw] at h
      simp only at h
      split at h
      · cases h
      · rename_i hl
        obtain ⟨a1, a2, rfl⟩ := (wordF_iff _ _ _).1 hw
        have hok : okT ⟨e, (timesIn acc e).length + 1, t⟩ = true := by
          simp only [okT]
          exact inB_two.2 ⟨a1, a2⟩
        obtain ⟨k1, k2, k3⟩ := readL_text r _ y (by
          intro f hf
          rcases List.mem_append.1 hf with hf | hf
          · exact h0 f hf
          · rw [List.mem_singleton.1 hf]
            exact hok) (by simp; omega) h
        refine ⟨?_, k2, k3⟩
        rw [k1, List.map_append, List.map_cons, List.map_nil, partT_num e _ 0 t, List.append_assoc]
        rfl
/-- A text that is read is the text of what was read. -/
theorem read_text {s : ByteArray} {y : List Firing} (h : readF s = some y) : runTextF y = s := by
  unfold readF at h
  split at h
  · rename_i hs
    injection h with h
    subst h
    apply bext
    rw [bsize] at hs
    rw [List.eq_nil_of_length_eq_zero hs]
    simp [runTextF, joinB, Lib.join_nil]
  · obtain ⟨h1, h2, h3⟩ := readL_text _ _ _ (by simp) (by simp) h
    unfold runTextF
    rw [if_pos ⟨h3, List.all_eq_true.2 h2⟩, h1]
    simpa using joinB_splitF 32 s
theorem readL_run : ∀ (r acc : List Firing), Numbered (acc ++ r) → (∀ f ∈ r, okT f = true) → (acc ++ r).length ≤ 500 → readL acc (r.map partT) = some (acc ++ r)
  | [], acc, _, _, _ => by simp [readL]
  | f :: r, acc, hN, hok, hl => by
    have hf := inB_two.1 (show (inB f.event 0 1000000 && inB f.time 0 1000000) = true from hok f (by simp))
    have hw : wordF (partT f) = some (f.event, f.time) := (wordF_iff _ _ _).2 ⟨hf.1, hf.2, partT_num _ _ _ _⟩
    have hnum : f.number = (timesIn acc f.event).length + 1 := by
      have := hN acc.length (by simp)
      simpa using this
    simp only [List.map_cons, readL, hw]
    have hl2 := hl
    rw [List.length_append, List.length_cons] at hl2
    rw [if_neg (by omega)]
    have e : (⟨f.event, (timesIn acc f.event).length + 1, f.time⟩ : Firing) = f := by
      cases f
      simp at hnum
      simp [hnum]
    rw [e]
    have := readL_run r (acc ++ [f]) (by simpa using hN) (fun g hg => hok g (by simp [hg])) (by simpa using hl)
    simpa using this
/-- A possible run is recovered from its text. -/
theorem text_read {ge : Int} {l : List Firing} (hr : RunOk ge l) (hg : ge ≤ 10) (hl : l.length ≤ 500) : readF (runTextF l) = some l := by
  have hok : ∀ f ∈ l, okT f = true := by
    intro f hf
    obtain ⟨⟨a, b⟩, c, d⟩ := hr.2 f hf
    exact inB_two.2 ⟨⟨a, by omega⟩, c, d⟩
  unfold runTextF
  rw [if_pos ⟨hl, List.all_eq_true.2 hok⟩]
  cases l with
  | nil => simp [readF, joinB, Lib.join_nil, ByteArray.size]
  | cons f r =>
    have hne : ¬ (joinB ((f :: r).map partT) ⟨#[32]⟩).size = 0 := by
      rw [bsize]
      simp only [joinB, List.map_cons, Lib.join_cons, partT_data]
      simp
    have hs : splitF 32 (joinB ((f :: r).map partT) ⟨#[32]⟩) = (f :: r).map partT := splitF_joinB 32 (by simp) (by
      intro x hx
      obtain ⟨g, hg, rfl⟩ := List.mem_map.1 hx
      rw [partT_data]
      simp only [List.mem_append, List.mem_cons, not_or]
      exact ⟨itoa_no (by decide) (by decide), by decide, itoa_no (by decide) (by decide)⟩)
    unfold readF
    rw [if_neg hne, hs]
    exact readL_run (f :: r) [] hr.1 hok hl

theorem readL_app : ∀ (a : List ByteArray) (acc : List Firing) (b : List ByteArray), readL acc (a ++ b) = match readL acc a with | none => none | some y => readL y b
  | [], acc, b => rfl
  | s :: a, acc, b => by
    simp only [List.cons_append, readL]
    cases wordF s with
    | none => rfl
    | some p =>
      simp only
      split
      · rfl
      · exact readL_app a _ b
theorem readL_len : ∀ (a : List ByteArray) (acc y : List Firing), acc.length ≤ 500 → readL acc a = some y → y.length = acc.length + a.length ∧ y.length ≤ 500
  | [], acc, y, h0, h => by
    simp only [readL] at h
    injection h with h
    subst h
    exact ⟨rfl, h0⟩
  | s :: a, acc, y, h0, h => by
    simp only [readL] at h
    cases hw : wordF s with
    | none => rw [hw] at h; cases h
    | some p =>
      rw [hw] at h
      simp only at h
      split at h
      · cases h
      · obtain ⟨h1, h2⟩ := readL_len a _ y (by simp; omega) h
        refine ⟨?_, h2⟩
        rw [h1]
        simp
        omega
theorem readL_next {W : List ByteArray} {k : Nat} {y : List Firing} (hk : k < W.length) (h : readL [] (W.take k) = some y) : readL [] (W.take (k + 1)) = match wordF W[k] with | none => none | some p => if y.length = 500 then none else some (y ++ [⟨p.1, (timesIn y p.1).length + 1, p.2⟩]) := by
  rw [List.take_succ_eq_append_getElem hk, readL_app, h]
  simp only [readL]
theorem readL_bad {W : List ByteArray} {k : Nat} (h : readL [] (W.take k) = none) : readL [] W = none := by
  rw [← List.take_append_drop k W, readL_app, h]
theorem readF_len (s : ByteArray) : ((readF s).getD []).length ≤ 1048576 := by
  unfold readF
  split
  · exact Nat.zero_le _
  · cases h : readL [] (splitF 32 s) with
    | none => exact Nat.zero_le _
    | some y =>
      have := (readL_len _ _ _ (by simp) h).2
      exact Nat.le_trans this (by decide)
theorem readF_500 {s : ByteArray} {y : List Firing} (h : readF s = some y) : y.length ≤ 500 := by
  unfold readF at h
  split at h
  · injection h with h
    subst h
    exact Nat.zero_le _
  · exact (readL_len _ _ _ (by simp) h).2
theorem word_bad {s : ByteArray} (h : numsF (splitF 64 s) = none) : wordF s = none := by
  rw [← word_nums, h]
  rfl
theorem word_len {s : ByteArray} {m : List Int} (h : numsF (splitF 64 s) = some m) (hm : m.length ≠ 2) : wordF s = none := by
  rw [← word_nums, h]
  match m, hm with
  | [], _ => rfl
  | [a], _ => rfl
  | [a, b], hm => exact absurd rfl hm
  | a :: b :: c :: r, _ => rfl
theorem word_two {s : ByteArray} {a b : Int} (h : numsF (splitF 64 s) = some [a, b]) : wordF s = if inB a 0 1000000 && inB b 0 1000000 then some (a, b) else none := by
  rw [← word_nums, h]
  rfl
end Go.Proofs.YtcoomogabicfnaaGreatDoor
